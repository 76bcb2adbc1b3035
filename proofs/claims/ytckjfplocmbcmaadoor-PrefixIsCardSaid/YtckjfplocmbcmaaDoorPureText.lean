/- What a prefix is written, and that just this is read as it. -/
import Derived.Test.YtckjfplocmbcmaaDoorPureGet
import Derived.Test.YtckjfplocmbcmaaDoorPAllx3
import Derived.Test.YtckjfplocmbcmaaDoorPAllx4
import Derived.Lib.SplitLaws
import Derived.Lib.ItoaNum
namespace Go.Proofs.YtckjfplocmbcmaaDoor.Pure
open Go.RowKit Go.Proofs.YtckjfplocmbcmaaDoor.PAll Go.Proofs.YtckjfplocmbcmaaDoorW.PrintWords Go.Proofs.YtckjfplocmbcmaaDoorW.PrintLast Go.Proofs.YtckjfplocmbcmaaDoorW.PrintMore
set_option linter.unusedVariables false
theorem natm1 (n : Nat) : ¬ (((n : Int) == -1) = true) := fun h => by
  have := beq_iff_eq.1 h
  omega
theorem index_at (c : UInt8) : ∀ (l r : List UInt8), c ∉ l → Lib.index (l ++ c :: r) [c] = (l.length : Int)
  | [], r, _ => by
    show Lib.index (c :: r) [c] = _
    rw [Lib.index, if_pos (by simp [List.isPrefixOf])]
    rfl
  | b :: l, r, h => by
    have hb : c ≠ b := fun e => h (by rw [e]; exact List.mem_cons_self ..)
    have hl : c ∉ l := fun e => h (List.mem_cons_of_mem _ e)
    show Lib.index (b :: (l ++ c :: r)) [c] = _
    rw [Lib.index, if_neg (by simp [List.isPrefixOf, hb]), index_at c l r hl, if_neg (natm1 _)]
    simp
theorem index_no (c : UInt8) : ∀ (l : List UInt8), c ∉ l → Lib.index l [c] = -1
  | [], _ => by rw [Lib.index, if_neg (by simp)]
  | b :: l, h => by
    have hb : c ≠ b := fun e => h (by rw [e]; exact List.mem_cons_self ..)
    have hl : c ∉ l := fun e => h (List.mem_cons_of_mem _ e)
    rw [Lib.index, if_neg (by simp [List.isPrefixOf, hb]), index_no c l hl, if_pos (by decide)]
/-- Where a byte is first, the text falls apart. -/
theorem index_apart (c : UInt8) : ∀ (l : List UInt8), Lib.index l [c] = -1 ∧ c ∉ l ∨ ∃ a r, l = a ++ c :: r ∧ c ∉ a ∧ Lib.index l [c] = (a.length : Int)
  | [] => .inl ⟨by rw [Lib.index, if_neg (by simp)], by simp⟩
  | b :: l => by
    by_cases hb : c = b
    · subst hb
      exact .inr ⟨[], l, rfl, by simp, index_at c [] l (by simp)⟩
    · rcases index_apart c l with ⟨h, hn⟩ | ⟨a, r, e, hn, h⟩
      · have hn' : c ∉ b :: l := by simp [hb, hn]
        exact .inl ⟨index_no c _ hn', hn'⟩
      · have hn' : c ∉ b :: a := by simp [hb, hn]
        refine .inr ⟨b :: a, r, by rw [e]; rfl, hn', ?_⟩
        rw [e]
        exact index_at c (b :: a) r hn'
theorem cut_at (c : UInt8) (l r : List UInt8) (h : c ∉ l) : Lib.cut (l ++ c :: r) [c] = (l, r, true) := by
  unfold Lib.cut
  rw [index_at c l r h, if_pos (by omega)]
  simp
theorem cut_no (c : UInt8) (l : List UInt8) (h : c ∉ l) : Lib.cut l [c] = (l, [], false) := by
  unfold Lib.cut
  rw [index_no c l h, if_neg (by decide)]
theorem cut_apart (c : UInt8) (l : List UInt8) : Lib.cut l [c] = (l, [], false) ∧ c ∉ l ∨ ∃ a r, l = a ++ c :: r ∧ c ∉ a ∧ Lib.cut l [c] = (a, r, true) := by
  rcases index_apart c l with ⟨_, hn⟩ | ⟨a, r, e, hn, _⟩
  · exact .inl ⟨cut_no c l hn, hn⟩
  · exact .inr ⟨a, r, e, hn, by rw [e]; exact cut_at c a r hn⟩
theorem splitK_join (c : UInt8) : ∀ (k : Nat) (s : List UInt8), Lib.join (Lib.splitK [c] 0 k s) [c] = s ∧ Lib.splitK [c] 0 k s ≠ []
  | 0, s => ⟨by rw [Lib.splitK, Lib.join_one], by simp [Lib.splitK]⟩
  | k + 1, s => by
    rw [Lib.splitK]
    rcases index_apart c s with ⟨h, _⟩ | ⟨a, r, e, hn, h⟩
    · rw [h, if_pos (by decide)]
      exact ⟨Lib.join_one _ _, by simp⟩
    · rw [h, if_neg (natm1 _)]
      have e1 : s.take ((a.length : Int).toNat + 0) = a := by rw [e]; simp
      have e2 : s.drop ((a.length : Int).toNat + [c].length) = r := by rw [e]; simp
      rw [e1, e2]
      obtain ⟨hj, hne⟩ := splitK_join c k r
      refine ⟨?_, by simp⟩
      obtain ⟨y, t, ht⟩ : ∃ y t, Lib.splitK [c] 0 k r = y :: t := by
        cases h : Lib.splitK [c] 0 k r with
        | nil => exact absurd h hne
        | cons y t => exact ⟨y, t, rfl⟩
      rw [ht, Lib.join_cons] at hj
      rw [ht, Lib.join_cons, e, ← hj]
      simp [Lib.joinTail]
theorem splitK_at (c : UInt8) (k : Nat) (a r : List UInt8) (h : c ∉ a) : Lib.splitK [c] 0 (k + 1) (a ++ c :: r) = a :: Lib.splitK [c] 0 k r := by
  rw [Lib.splitK, index_at c a r h, if_neg (natm1 _)]
  simp
/-! ### Numbers -/
theorem dig_bytes : ∀ n : Fin 256, (∀ c ∈ Lib.itoa (n.val : Int), c ≠ 46 ∧ c ≠ 47) ∧ (Lib.itoa (n.val : Int)).length ≤ 3 ∧ Lib.atoiAll (Lib.itoa (n.val : Int)) = .ok (n.val : Int) := by decide +kernel
theorem dig_ok {n : Int} (h : byteI n) : (∀ c ∈ Lib.itoa n, c ≠ 46 ∧ c ≠ 47) ∧ (Lib.itoa n).length ≤ 3 ∧ Lib.atoiAll (Lib.itoa n) = .ok n := by
  have := dig_bytes ⟨n.toNat, by unfold byteI at h; omega⟩
  rw [show ((n.toNat : Nat) : Int) = n by unfold byteI at h; omega] at this
  exact this
theorem itoa_i64 {n : Int} (h : byteI n) : strconv_Itoa.f n = some (itoaB n) := by
  unfold strconv_Itoa.f
  rw [if_pos]
  unfold byteI at h
  simp only [i64ok, Lit.wf, decide_eq_true_eq, Bool.and_eq_true]
  show IntKind.i64.min ≤ n ∧ n ≤ IntKind.i64.max
  have e1 : IntKind.i64.min = -9223372036854775808 := by decide +kernel
  have e2 : IntKind.i64.max = 9223372036854775807 := by decide +kernel
  rw [e1, e2]
  omega
theorem baData {a b : ByteArray} (h : a.data = b.data) : a = b := by
  cases a
  cases b
  exact congrArg _ h
theorem beqB (a b : ByteArray) : (a == b) = (a.data == b.data) := rfl
theorem itoaB_data (n : Int) : (itoaB n).data.toList = Lib.itoa n := rfl
theorem number_itoa {n : Int} (h : byteI n) : prefix_number.f (itoaB n) = some (n, true) := by
  obtain ⟨-, h2, h3⟩ := dig_ok h
  unfold prefix_number.f
  have hs : (itoaB n).size = (Lib.itoa n).length := by unfold itoaB; simp [ByteArray.size]
  rw [if_pos (by omega), itoaB_data, h3]
  simp [beqB]
theorem number_some {s : ByteArray} {n : Int} (h : prefix_number.f s = some (n, true)) : itoaB n = s := by
  unfold prefix_number.f at h
  split at h
  · split at h
    · simp only [Option.some.injEq, Prod.mk.injEq] at h
      obtain ⟨rfl, h⟩ := h
      rw [beqB] at h
      exact baData (eq_of_beq h)
    · simp at h
    · simp at h
  · cases h
theorem number_any (s : ByteArray) (h : s.size ≤ 281474976710656) : ∃ n b, prefix_number.f s = some (n, b) := by
  unfold prefix_number.f
  rw [if_pos h]
  split <;> exact ⟨_, _, rfl⟩
/-! ### The text -/
def textL (a n : Int) : List UInt8 := Lib.join ((bytesP a).map Lib.itoa) [46] ++ 47 :: Lib.itoa n
def textP (a n : Int) : ByteArray := ⟨(textL a n).toArray⟩
theorem join4 (a b c d : List UInt8) (s : UInt8) : Lib.join [a, b, c, d] [s] = a ++ s :: (b ++ s :: (c ++ s :: d)) := by
  rw [Lib.join_cons]
  simp [Lib.joinTail]
theorem mkSize (l : List UInt8) : (⟨l.toArray⟩ : ByteArray).size = l.length := by simp [ByteArray.size]
theorem sizeB (x : ByteArray) : x.data.toList.length = x.size := by
  rw [Array.length_toList]
  rfl
theorem baExt {a b : ByteArray} (h : a.data.toList = b.data.toList) : a = b := by
  cases a
  cases b
  simp only [ByteArray.mk.injEq]
  exact Array.toList_inj.1 h
theorem text_eq (k : Nat) (a n : Int) (ha : i64 a) : prefix_Text.f (k + 8) a n = some (if saneP a n = true then textP a n else ⟨#[]⟩) := by
  unfold prefix_Text.f
  rw [sane_eq a n ha, Option.bind_some]
  by_cases hs : saneP a n = true
  · obtain ⟨h0, h1, -⟩ := (saneP_iff a n).1 hs
    rw [if_pos hs, if_pos hs, show k + 8 = (k + 1) + 7 by omega, oput4, Option.bind_some, bytesP_len]
    have hb := bytesP_byte a
    have hB : (bytesP a).map Lib.itoa = [Lib.itoa (a / 16777216 % 256), Lib.itoa (a / 65536 % 256), Lib.itoa (a / 256 % 256), Lib.itoa (a % 256)] := rfl
    unfold textP textL
    rw [hB]
    have hn : byteI n := by constructor <;> omega
    obtain ⟨x, y, z, u, e⟩ := four_of (bytesP_len a)
    have e' : bytesP a = [a / 16777216 % 256, a / 65536 % 256, a / 256 % 256, a % 256] := rfl
    rw [e] at e' hb
    simp only [List.cons.injEq, and_true] at e'
    rw [← e'.1, ← e'.2.1, ← e'.2.2.1, ← e'.2.2.2, e]
    have hx := hb x (by simp)
    have hy := hb y (by simp)
    have hz := hb z (by simp)
    have hu := hb u (by simp)
    have r0 : rd [x, y, z, u] 0 = x := rfl
    have r1 : rd [x, y, z, u] 1 = y := rfl
    have r2 : rd [x, y, z, u] 2 = z := rfl
    have r3 : rd [x, y, z, u] 3 = u := rfl
    have hl : (([x, y, z, u] : List Int).length : Int) = 4 := rfl
    have l1 := (dig_ok hx).2.1
    have l2 := (dig_ok hy).2.1
    have l3 := (dig_ok hz).2.1
    have l4 := (dig_ok hu).2.1
    have l5 := (dig_ok hn).2.1
    obtain ⟨J, hJ⟩ : ∃ J, J = Lib.join [Lib.itoa x, Lib.itoa y, Lib.itoa z, Lib.itoa u] [46] := ⟨_, rfl⟩
    have hJl : J.length ≤ 15 := by
      rw [hJ, join4]
      simp only [List.length_append, List.length_cons]
      omega
    have hjoin : strings_Join.f [itoaB x, itoaB y, itoaB z, itoaB u] (⟨#[46]⟩ : ByteArray) = some ⟨J.toArray⟩ := by
      unfold strings_Join.f
      have e2 : ([itoaB x, itoaB y, itoaB z, itoaB u].map (·.data.toList)) = [Lib.itoa x, Lib.itoa y, Lib.itoa z, Lib.itoa u] := rfl
      have e3 : (⟨#[46]⟩ : ByteArray).data.toList = [46] := rfl
      rw [if_pos (by simp), e2, e3, ← hJ, if_pos (by omega)]
    rw [show k + 1 + 7 = k + 8 by omega]
    simp only [prefix_Text.l0, r0, r1, r2, r3, w01, w11, w21, w31, wrap_byte hx, wrap_byte hy, wrap_byte hz, wrap_byte hu, itoa_i64 hx, itoa_i64 hy, itoa_i64 hz, itoa_i64 hu, itoa_i64 hn, Option.bind_some, List.nil_append, List.cons_append, hjoin, List.length_nil, List.length_cons]
    have hJs : (⟨J.toArray⟩ : ByteArray).size = J.length := by simp [ByteArray.size]
    have hns : (itoaB n).size = (Lib.itoa n).length := by unfold itoaB; simp [ByteArray.size]
    rw [← hJ]
    simp only [hJs, hns]
    repeat (first | rw [if_pos (by decide)] | rw [if_neg (by decide)] | rw [if_pos (by omega)])
    congr 1
    apply baExt
    simp [itoaB_data]
  · rw [if_neg hs, if_neg hs]
/-! ### What is read -/
theorem read_steps (k : Nat) (p q r s : ByteArray) (n : Int) (hp : p.size ≤ 281474976710656) (hq : q.size ≤ 281474976710656) (hr : r.size ≤ 281474976710656) (hs : s.size ≤ 281474976710656) :
    (∃ a b c d, byteI a ∧ byteI b ∧ byteI c ∧ byteI d ∧ itoaB a = p ∧ itoaB b = q ∧ itoaB c = r ∧ itoaB d = s ∧ prefix_Read.l0 (k + 5) [p, q, r, s] 4 0 0 n = (prefix_Sane.f (((a * 256 + b) * 256 + c) * 256 + d) n).bind fun t => if t = true then some (((a * 256 + b) * 256 + c) * 256 + d, n, true) else some (0, 0, false))
    ∨ prefix_Read.l0 (k + 5) [p, q, r, s] 4 0 0 n = some (0, 0, false) := by
  have r0 : rdOf ByteArray.empty [p, q, r, s] 0 = p := rfl
  have r1 : rdOf ByteArray.empty [p, q, r, s] 1 = q := rfl
  have r2 : rdOf ByteArray.empty [p, q, r, s] 2 = r := rfl
  have r3 : rdOf ByteArray.empty [p, q, r, s] 3 = s := rfl
  have hl : (([p, q, r, s] : List ByteArray).length : Int) = 4 := rfl
  obtain ⟨a, ba, ea⟩ := number_any p hp
  obtain ⟨b, bb, eb⟩ := number_any q hq
  obtain ⟨c, bc, ec⟩ := number_any r hr
  obtain ⟨d, bd, ed⟩ := number_any s hs
  have stop : ∀ (j : Nat) (i A v : Int) (t : ByteArray) (bv : Bool), 0 ≤ i → i < 4 → rdOf ByteArray.empty [p, q, r, s] i = t → prefix_number.f t = some (v, bv) → ¬ (bv = true ∧ byteI v) → prefix_Read.l0 (j + 1) [p, q, r, s] 4 i A n = some (0, 0, false) := by
    intro j i A v t bv h0 h1 ht hv hn
    simp only [prefix_Read.l0, hl, ht, hv, Option.bind_some]
    rw [if_pos h1, if_pos h0, if_pos h1]
    cases bv
    · rw [if_neg (by decide)]
    · rw [if_pos rfl]
      by_cases h2 : v < 0
      · rw [if_pos h2]
      · rw [if_neg h2, if_pos]
        unfold byteI at hn
        simp only [true_and] at hn
        omega
  have go : ∀ (j : Nat) (i A v : Int) (t : ByteArray), 0 ≤ i → i < 4 → 0 ≤ A → A < 16777216 → rdOf ByteArray.empty [p, q, r, s] i = t → prefix_number.f t = some (v, true) → byteI v → prefix_Read.l0 (j + 1) [p, q, r, s] 4 i A n = prefix_Read.l0 j [p, q, r, s] 4 (wrap64 (i + 1)) (A * 256 + v) n := by
    intro j i A v t h0 h1 hA hA' ht hv hn
    have ho := or_byte A v hA hA' hn.1 hn.2
    unfold byteI at hn
    conv => lhs; rw [prefix_Read.l0]
    simp only [hl, ht, hv, Option.bind_some, ho]
    rw [if_pos h1, if_pos h0, if_pos h1, if_pos trivial, if_neg (by omega), if_neg (by omega)]
  by_cases ha : ba = true ∧ byteI a
  · obtain ⟨rfl, ha⟩ := ha
    have s1 := go (k + 4) 0 0 a p (by decide) (by decide) (by decide) (by decide) r0 ea ha
    rw [w01, show (0 : Int) * 256 + a = a by omega] at s1
    by_cases hb : bb = true ∧ byteI b
    · obtain ⟨rfl, hb⟩ := hb
      have s2 := go (k + 3) 1 a b q (by decide) (by decide) ha.1 (by unfold byteI at ha; omega) r1 eb hb
      rw [w11] at s2
      by_cases hc : bc = true ∧ byteI c
      · obtain ⟨rfl, hc⟩ := hc
        have s3 := go (k + 2) 2 (a * 256 + b) c r (by decide) (by decide) (by unfold byteI at ha hb; omega) (by unfold byteI at ha hb; omega) r2 ec hc
        rw [w21] at s3
        by_cases hd : bd = true ∧ byteI d
        · obtain ⟨rfl, hd⟩ := hd
          have s4 := go (k + 1) 3 ((a * 256 + b) * 256 + c) d s (by decide) (by decide) (by unfold byteI at ha hb hc; omega) (by unfold byteI at ha hb hc; omega) r3 ed hd
          rw [w31] at s4
          refine .inl ⟨a, b, c, d, ha, hb, hc, hd, number_some ea, number_some eb, number_some ec, number_some ed, ?_⟩
          rw [s1, s2, s3, s4]
          conv => lhs; rw [prefix_Read.l0]
          rw [if_neg (by decide)]
        · exact .inr (by rw [s1, s2, s3, stop (k + 1) 3 _ d s bd (by decide) (by decide) r3 ed hd])
      · exact .inr (by rw [s1, s2, stop (k + 2) 2 _ c r bc (by decide) (by decide) r2 ec hc])
    · exact .inr (by rw [s1, stop (k + 3) 1 _ b q bb (by decide) (by decide) r1 eb hb])
  · exact .inr (stop (k + 4) 0 _ a p ba (by decide) (by decide) r0 ea ha)
theorem bytesP_of {a b c d : Int} (ha : byteI a) (hb : byteI b) (hc : byteI c) (hd : byteI d) : bytesP (((a * 256 + b) * 256 + c) * 256 + d) = [a, b, c, d] := by
  unfold byteI at *
  unfold bytesP
  simp only [List.cons.injEq, and_true]
  omega
theorem splitB_list (s : ByteArray) (k : Nat) (c : UInt8) : (Lib.splitB ⟨#[c]⟩ 0 k s).map (·.data.toList) = Lib.splitK [c] 0 k s.data.toList := Lib.splitB_data ⟨#[c]⟩ 0 k s
theorem read_spec (k : Nat) (s : ByteArray) (hs : s.size ≤ 1000) : ∃ a n ok, prefix_Read.f (k + 6) s = some (a, n, ok) ∧ (ok = true → saneP a n = true ∧ i64 a ∧ s = textP a n) ∧ (ok = false → a = 0 ∧ n = 0) := by
  have e47 : (⟨#[47]⟩ : ByteArray).data.toList = [47] := rfl
  have no : ∀ (r : Option (Int × Int × Bool)), r = some (0, 0, false) → ∃ a n ok, r = some (a, n, ok) ∧ (ok = true → saneP a n = true ∧ i64 a ∧ s = textP a n) ∧ (ok = false → a = 0 ∧ n = 0) := by
    intro r h
    exact ⟨0, 0, false, h, fun h => (by cases h), fun _ => ⟨rfl, rfl⟩⟩
  have hsl := sizeB s
  unfold prefix_Read.f strings_Cut.f
  rw [if_pos (by omega), Option.bind_some, e47]
  dsimp only
  rcases cut_apart 47 s.data.toList with ⟨hc, hn⟩ | ⟨A, T, hAT, hn, hc⟩
  · rw [hc]
    dsimp only
    unfold strings_Split.f
    rw [mkSize, if_pos (by omega), if_pos (by decide), Option.bind_some]
    have h0 : prefix_number.f ⟨([] : List UInt8).toArray⟩ = some (0, false) := by decide +kernel
    rw [h0, Option.bind_some, if_neg (by decide)]
    exact no _ rfl
  · rw [hc]
    dsimp only
    have hlen : A.length + (T.length + 1) = s.size := by rw [← hsl, hAT, List.length_append, List.length_cons]
    unfold strings_Split.f
    rw [mkSize, if_pos (by omega), if_pos (by decide), Option.bind_some]
    obtain ⟨n, b, hnum⟩ := number_any ⟨T.toArray⟩ (by rw [mkSize]; omega)
    rw [hnum, Option.bind_some]
    cases b
    · dsimp only
      rw [if_neg (by decide)]
      exact no _ rfl
    · dsimp only
      rw [if_pos rfl]
      obtain ⟨l, hl⟩ : ∃ l, l = Lib.splitB ⟨#[46]⟩ 0 (Lib.countB ⟨A.toArray⟩ ⟨#[46]⟩) ⟨A.toArray⟩ := ⟨_, rfl⟩
      rw [← hl]
      have hmap : l.map (·.data.toList) = Lib.splitK [46] 0 (Lib.countB ⟨A.toArray⟩ ⟨#[46]⟩) A := by rw [hl]; exact splitB_list _ _ _
      have hj := (splitK_join 46 (Lib.countB ⟨A.toArray⟩ ⟨#[46]⟩) A).1
      rw [← hmap] at hj
      by_cases h4 : l.length = 4
      · have h4' : ((l.length : Int) != 4) = false := by rw [h4]; decide
        rw [h4']
        match l, h4, hj with
        | [p, q, r, t], _, hj =>
          have hjl := congrArg List.length hj
          rw [show ([p, q, r, t].map (·.data.toList)) = [p.data.toList, q.data.toList, r.data.toList, t.data.toList] from rfl, join4] at hjl hj
          simp only [List.length_append, List.length_cons] at hjl
          have zs : ∀ x : ByteArray, x.data.toList.length = x.size := sizeB
          rw [zs, zs, zs, zs] at hjl
          show ∃ a n' ok, prefix_Read.j0 (k + 6) [p, q, r, t] n false = some (a, n', ok) ∧ _
          rw [show prefix_Read.j0 (k + 6) [p, q, r, t] n false = prefix_Read.l0 (k + 5) [p, q, r, t] 4 0 0 n by rw [prefix_Read.j0, if_neg (by decide)]; rfl]
          rcases read_steps k p q r t n (by omega) (by omega) (by omega) (by omega) with ⟨a, b, c, d, ha, hb, hc', hd, rfl, rfl, rfl, rfl, h⟩ | h
          · rw [h]
            have hi : i64 (((a * 256 + b) * 256 + c) * 256 + d) := by
              unfold byteI at *
              constructor <;> omega
            rw [sane_eq _ n hi, Option.bind_some]
            by_cases hsn : saneP (((a * 256 + b) * 256 + c) * 256 + d) n = true
            · rw [if_pos hsn]
              refine ⟨_, n, true, rfl, fun _ => ⟨hsn, hi, ?_⟩, fun h => by cases h⟩
              apply baExt
              show s.data.toList = textL _ n
              unfold textL
              rw [bytesP_of ha hb hc' hd, hAT, ← hj]
              have hT := number_some hnum
              have hT' : Lib.itoa n = T := congrArg (fun z : ByteArray => z.data.toList) hT
              rw [hT', show ([a, b, c, d].map Lib.itoa) = [Lib.itoa a, Lib.itoa b, Lib.itoa c, Lib.itoa d] from rfl, join4]
              rfl
            · rw [if_neg hsn]
              exact no _ rfl
          · exact no _ h
      · have h4' : ((l.length : Int) != 4) = true := by simp; omega
        rw [h4']
        exact no _ rfl
theorem textL_len {a n : Int} (h0 : 0 ≤ n) (h1 : n ≤ 32) : (textL a n).length ≤ 19 := by
  have hb := bytesP_byte a
  obtain ⟨x, y, z, u, e⟩ := four_of (bytesP_len a)
  rw [e] at hb
  unfold textL
  rw [e, show ([x, y, z, u].map Lib.itoa) = [Lib.itoa x, Lib.itoa y, Lib.itoa z, Lib.itoa u] from rfl, join4]
  have l1 := (dig_ok (hb x (by simp))).2.1
  have l2 := (dig_ok (hb y (by simp))).2.1
  have l3 := (dig_ok (hb z (by simp))).2.1
  have l4 := (dig_ok (hb u (by simp))).2.1
  have l5 := (dig_ok (n := n) (by constructor <;> omega)).2.1
  simp only [List.length_append, List.length_cons]
  omega
theorem textP_size {a n : Int} (h0 : 0 ≤ n) (h1 : n ≤ 32) : (textP a n).size ≤ 19 := by
  have := textL_len (a := a) h0 h1
  unfold textP
  simpa [ByteArray.size] using this
/-- What is written is read. -/
theorem read_text (k : Nat) (a n : Int) (hs : saneP a n = true) : prefix_Read.f (k + 6) (textP a n) = some (a, n, true) := by
  obtain ⟨h0, h1, -⟩ := (saneP_iff a n).1 hs
  have hlow := sane_low hs
  have hlt := lowN_lt a
  have hsz := textP_size (a := a) h0 h1
  have hb := bytesP_byte a
  obtain ⟨x, y, z, u, e⟩ := four_of (bytesP_len a)
  have hxa : ((x * 256 + y) * 256 + z) * 256 + u = a := by
    have e' : bytesP a = [a / 16777216 % 256, a / 65536 % 256, a / 256 % 256, a % 256] := rfl
    rw [e] at e'
    simp only [List.cons.injEq, and_true] at e'
    omega
  rw [e] at hb
  have hx := hb x (by simp)
  have hy := hb y (by simp)
  have hz := hb z (by simp)
  have hu := hb u (by simp)
  have hn : byteI n := by constructor <;> omega
  have dx := (dig_ok hx).1
  have dy := (dig_ok hy).1
  have dz := (dig_ok hz).1
  have du := (dig_ok hu).1
  obtain ⟨J, hJ⟩ : ∃ J, J = Lib.join [Lib.itoa x, Lib.itoa y, Lib.itoa z, Lib.itoa u] [46] := ⟨_, rfl⟩
  have hT : (textP a n).data.toList = J ++ 47 :: Lib.itoa n := by
    show textL a n = _
    unfold textL
    rw [e, hJ]
    rfl
  have n47 : (47 : UInt8) ∉ J := by
    rw [hJ, join4]
    simp only [List.mem_append, List.mem_cons, not_or]
    exact ⟨fun h => (dx _ h).2 rfl, by decide, fun h => (dy _ h).2 rfl, by decide, fun h => (dz _ h).2 rfl, by decide, fun h => (du _ h).2 rfl⟩
  have e47 : (⟨#[47]⟩ : ByteArray).data.toList = [47] := rfl
  have hJl : J.length ≤ 19 := by
    have := congrArg List.length hT
    rw [List.length_append, List.length_cons] at this
    have := sizeB (textP a n)
    omega
  unfold prefix_Read.f strings_Cut.f
  rw [if_pos (by omega), Option.bind_some, e47, hT, cut_at 47 J _ n47]
  dsimp only
  unfold strings_Split.f
  rw [mkSize, if_pos (by omega), if_pos (by decide), Option.bind_some, show (⟨(Lib.itoa n).toArray⟩ : ByteArray) = itoaB n from rfl, number_itoa hn, Option.bind_some, if_pos rfl]
  dsimp only
  have hcount : Lib.countB ⟨J.toArray⟩ ⟨#[46]⟩ = 3 := by
    show Lib.count J [46] = 3
    rw [Lib.count_one, hJ, join4]
    have c0 : ∀ v : List UInt8, (∀ c ∈ v, c ≠ 46 ∧ c ≠ 47) → v.count 46 = 0 := fun v h => List.count_eq_zero.2 fun m => (h _ m).1 rfl
    simp only [List.count_append, List.count_cons_self, c0 _ dx, c0 _ dy, c0 _ dz, c0 _ du]
  obtain ⟨l, hl⟩ : ∃ l, l = Lib.splitB ⟨#[46]⟩ 0 (Lib.countB ⟨J.toArray⟩ ⟨#[46]⟩) ⟨J.toArray⟩ := ⟨_, rfl⟩
  have hmap : l.map (·.data.toList) = [Lib.itoa x, Lib.itoa y, Lib.itoa z, Lib.itoa u] := by
    rw [hl, splitB_list, hcount]
    show Lib.splitK [46] 0 3 J = _
    rw [hJ, join4, splitK_at _ _ _ _ (fun h => (dx _ h).1 rfl), splitK_at _ _ _ _ (fun h => (dy _ h).1 rfl), splitK_at _ _ _ _ (fun h => (dz _ h).1 rfl)]
    rfl
  have hl4 : l = [itoaB x, itoaB y, itoaB z, itoaB u] := by
    have hlen := congrArg List.length hmap
    rw [List.length_map] at hlen
    match l, hlen, hmap with
    | [p, q, r, t], _, hmap =>
      simp only [List.map_cons, List.map_nil, List.cons.injEq, and_true] at hmap
      obtain ⟨h1, h2, h3, h4⟩ := hmap
      rw [baExt (a := p) (b := itoaB x) h1, baExt (a := q) (b := itoaB y) h2, baExt (a := r) (b := itoaB z) h3, baExt (a := t) (b := itoaB u) h4]
  rw [← hl, hl4]
  rw [show prefix_Read.j0 (k + 6) [itoaB x, itoaB y, itoaB z, itoaB u] n ((([itoaB x, itoaB y, itoaB z, itoaB u].length : Int)) != 4) = prefix_Read.l0 (k + 5) [itoaB x, itoaB y, itoaB z, itoaB u] 4 0 0 n by rw [prefix_Read.j0]; rfl]
  have hi : ∀ v, byteI v → (itoaB v).size ≤ 281474976710656 := by
    intro v hv
    have hvs : (itoaB v).size = (Lib.itoa v).length := by unfold itoaB; simp [ByteArray.size]
    have := (dig_ok hv).2.1
    omega
  have inj : ∀ v w, byteI v → byteI w → itoaB v = itoaB w → v = w := by
    intro v w hv hw h
    have h1 := number_itoa hv
    rw [h, number_itoa hw] at h1
    simp only [Option.some.injEq, Prod.mk.injEq, and_true] at h1
    exact h1.symm
  have hi64 : i64 a := by constructor <;> omega
  rcases read_steps k _ _ _ _ n (hi x hx) (hi y hy) (hi z hz) (hi u hu) with ⟨a', b', c', d', ha', hb', hc', hd', e1, e2, e3, e4, h⟩ | h
  · rw [h, inj _ _ ha' hx e1, inj _ _ hb' hy e2, inj _ _ hc' hz e3, inj _ _ hd' hu e4, hxa, sane_eq a n hi64, Option.bind_some, hs, if_pos rfl]
  · exfalso
    have r0 : rdOf ByteArray.empty [itoaB x, itoaB y, itoaB z, itoaB u] 0 = itoaB x := rfl
    have r1 : rdOf ByteArray.empty [itoaB x, itoaB y, itoaB z, itoaB u] 1 = itoaB y := rfl
    have r2 : rdOf ByteArray.empty [itoaB x, itoaB y, itoaB z, itoaB u] 2 = itoaB z := rfl
    have r3 : rdOf ByteArray.empty [itoaB x, itoaB y, itoaB z, itoaB u] 3 = itoaB u := rfl
    have hl : (([itoaB x, itoaB y, itoaB z, itoaB u] : List ByteArray).length : Int) = 4 := rfl
    have o0 := or_byte 0 x (by decide) (by decide) hx.1 hx.2
    have e0 : (0 : Int) * 256 + x = x := by omega
    rw [e0] at o0
    unfold byteI at hx hy hz hu
    have o1 := or_byte x y (by omega) (by omega) hy.1 hy.2
    have o2 := or_byte (x * 256 + y) z (by omega) (by omega) hz.1 hz.2
    have o3 := or_byte ((x * 256 + y) * 256 + z) u (by omega) (by omega) hu.1 hu.2
    simp only [prefix_Read.l0, hl, r0, r1, r2, r3, w01, w11, w21, w31, number_itoa hx, number_itoa hy, number_itoa hz, number_itoa hu, Option.bind_some, o0, o1, o2, o3, hxa, sane_eq a n hi64, hs, if_true] at h
    simp only [show ¬ x < 0 by omega, show ¬ x > 255 by omega, show ¬ y < 0 by omega, show ¬ y > 255 by omega, show ¬ z < 0 by omega, show ¬ z > 255 by omega, show ¬ u < 0 by omega, show ¬ u > 255 by omega, if_false] at h
    simp at h
end Go.Proofs.YtckjfplocmbcmaaDoor.Pure
