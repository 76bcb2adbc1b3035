-- Written by a program of this session's (wip/tools), out of the translation. Lean checks it.
import Derived.Test.YtmohglifmoecnaaDoorPPlax0
import Derived.Test.YtmohglifmoecnaaDoorPPlax2
namespace Go.Proofs.YtmohglifmoecnaaDoor.PPla
open Go.RowKit Go.Proofs.YtmohglifmoecnaaDoorW.PrintWords Go.Proofs.YtmohglifmoecnaaDoorW.PrintLast Go.Proofs.YtmohglifmoecnaaDoorW.PrintMore
attribute [local go_sem] max2_int min2_int max_two min_two max_three min_three max_four min_four   -- for this text's walks alone
set_option linter.unusedVariables false
set_option linter.unusedSimpArgs false

/-! ### lex_Show: function 14 (ours) -/

theorem info47 : (Tryd.prog.info? 47).map (·.size) = some 2 := by kernel_rfl
theorem lies47 : liesAt Tryd.prog Tryd.prog.depth 47 (2 / Tryd.prog.cellsOf 47) 0 47 1 = true := by kernel_rfl
set_option maxHeartbeats 2000000 in
set_option maxRecDepth 1000000 in
/-- Behind copyCheck a builder of this walk's own holds its own address. -/
theorem check_calls (B b : Nat) (bs : List Value) (w : World) (h : Lib.IsBuilderF 47 5 B b bs w) :
    Calls Tryd.prog 26 #[.pointer (some ⟨b, 0, none⟩)] w fun e w' => e = .returned (.tuple #[]) ∧ Lib.BuilderAtF 47 5 B b (.pointer (some ⟨b, 0, none⟩)) bs w' ∧ Below B w w' ∧ Lib.OthersKept 5 (some b) w w' := by
  obtain ⟨j, hj, hjs⟩ := Option.map_eq_some_iff.1 info47
  rcases h with h | h
  · have h0 := h.cell0
    have hsh := h.shape
    have hfz := h.frozen0
    have hu := h.used (.pointer (some ⟨b, 0, none⟩))
    go_enter Tryd.func26, Tryd.ntmps26
    go_wp2
    rw [Lib.run_to_unsafe w ⟨b, 0, none⟩ Tryd.underlying45 Tryd.underlying61 hj (by rw [hjs]; decide) hsh (Nat.zero_lt_succ 1)]
    simp only [Result.andThen]
    rw [Oper.upon_value]
    go_wp2
    rw [run_callFunc_extern Tryd.func28 (by kernel_rfl) (by kernel_rfl) (by kernel_rfl) (e := Extern.AbiNoEscape.same) (by kernel_rfl)]
    rw [Lib.run_noEscape]
    simp only [Result.andThen]
    rw [Oper.upon_value]
    go_wp2
    rw [Lib.run_from_unsafe w ⟨b, 0, none⟩ Tryd.underlying61 Tryd.underlying45 hj hsh lies47]
    simp only [Result.andThen]
    rw [Oper.upon_value]
    go_wp2
    go_end0
    exact ⟨rfl, hu, (Below.refl B w).setCell (p := ⟨b, 0, none⟩) h.1 _, (Lib.OthersKept.refl _ _ w).setCell ⟨b, 0, none⟩ rfl _⟩
  · have h0 := h.cell0
    go_enter Tryd.func26, Tryd.ntmps26
    go_wp2
    rw [Lib.run_neq_ptr_same w _ Tryd.underlying45 hj]
    go_wp2
    go_end0
    exact ⟨rfl, h, Below.refl B _, Lib.OthersKept.refl _ _ _⟩
theorem info5' : ∃ i0, Tryd.prog.info? 5 = some i0 ∧ i0.zero = some (.int .u8 0) ∧ i0.size = 1 ∧ i0.bytes = 1 := by
  obtain ⟨i0, hi, hzz⟩ := Option.map_eq_some_iff.1 info5
  simp only [Prod.mk.injEq] at hzz
  exact ⟨i0, hi, hzz⟩
set_option maxHeartbeats 4000000 in
set_option maxRecDepth 1000000 in
theorem writeString_calls (B b : Nat) (bs : List Value) (s : ByteArray) (w : World) (h : Lib.IsBuilderF 47 5 B b bs w) (hlen : bs.length + s.size ≤ 140737488355328) (hBw : B ≤ w.heap.size) :
    Calls Tryd.prog 20 #[.pointer (some ⟨b, 0, none⟩), .string s] w fun e w' => e = .returned (.tuple #[.int .i64 s.size, .nilIface]) ∧ Lib.BuilderAtF 47 5 B b (.pointer (some ⟨b, 0, none⟩)) (bs ++ Lib.strCells s) w' ∧ Below B w w' ∧ Lib.OthersKept 5 (some b) w w' := by
  obtain ⟨i0, hi, hz0, hz1, hz2⟩ := info5'
  go_enter Tryd.func20, Tryd.ntmps20
  go_wp2_with (go_at_call 26; refine (check_calls B b bs _ h).mono ?_)
  rintro e w1 ⟨rfl, h1, hb1, hk1⟩
  obtain ⟨hB, v, hbk, hown, hne⟩ := h1
  have c1 : w1.cell? ⟨b, 1, none⟩ = some v := (blk_cell hbk 1).trans rfl
  go_wp2_with (at_builtin; refine Lib.wpList_append_own_stringF _ rfl _ _ 35 9 rfl B 5 i0 Tryd.underlying35 Tryd.underlying9 hi hz0 hz1 hz2 _ _ _ rfl hown s rfl ?c3 ?c4 ?c5 ?_)
  case c3 => unfold maxLen; omega
  case c4 => omega
  case c5 => exact Nat.le_trans hBw hb1.size
  intro v' w2 hown' hgrow _
  have hb2 : w2.heap[b]? = some (.cells #[.pointer (some ⟨b, 0, none⟩), v] 47 (0, 0)) := blk_grown hbk hgrow (fun e => hne e.symm)
  have d1 : w2.cell? ⟨b, 1, none⟩ = some v := (blk_cell hb2 1).trans rfl
  have f1 : w2.frozen? ⟨b, 1, none⟩ = false := blk_frozen hb2 1
  obtain ⟨ao, n', cap, rfl⟩ : ∃ ao n' cap, v' = .slice ao n' cap := by
    rcases hown'.2 with ⟨hv, _⟩ | ⟨g, cap, cur, fz, hv, _⟩
    · exact ⟨_, _, _, hv⟩
    · exact ⟨_, _, _, hv⟩
  go_wp2
  go_ret2
  refine ⟨rfl, ?_, ?_, (hk1.grown hgrow (Lib.ownsRowF_kind hown)).setCell ⟨b, 1, none⟩ rfl _⟩
  · exact Lib.BuilderAtF.put (T := 47) (e := 5) hB hb2 (bs' := bs ++ Lib.strCells s) (by simpa [Lib.strCells_length] using hown') (by decide)
  · exact (hb1.grown hgrow (Nat.le_trans hBw hb1.size) (fun k hk => (hown.lt k hk).1)).setCell (p := ⟨b, 1, none⟩) hB _
set_option maxHeartbeats 4000000 in
set_option maxRecDepth 1000000 in
theorem writeByte_calls (B b : Nat) (bs : List Value) (c : Int) (w : World) (h : Lib.IsBuilderF 47 5 B b bs w) (hlen : bs.length + 1 ≤ 140737488355328) (hBw : B ≤ w.heap.size) :
    Calls Tryd.prog 21 #[.pointer (some ⟨b, 0, none⟩), .int .u8 c] w fun e w' => e = .returned .nilIface ∧ Lib.BuilderAtF 47 5 B b (.pointer (some ⟨b, 0, none⟩)) (bs ++ [.int .u8 c]) w' ∧ Below B w w' ∧ Lib.OthersKept 5 (some b) w w' := by
  obtain ⟨i0, hi, hz0, hz1, hz2⟩ := info5'
  go_enter Tryd.func21, Tryd.ntmps21
  go_wp2_with (go_at_call 26; refine (check_calls B b bs _ h).mono ?_)
  rintro e w1 ⟨rfl, h1, hb1, hk1⟩
  obtain ⟨hB, v, hbk, hown, hne⟩ := h1
  have c1 : w1.cell? ⟨b, 1, none⟩ = some v := (blk_cell hbk 1).trans rfl
  have c1' : (w1.alloc (.cells #[.int .u8 c] 5)).cell? ⟨b, 1, none⟩ = some v := (blk_cell (blk_alloc hbk _) 1).trans rfl
  go_wp2_with (at_builtin; refine wpList_append_ownF _ rfl _ _ 35 rfl B 5 i0 (.int .u8 0) 1 1 Tryd.underlying35 hi hz0 hz1 hz2 rfl (by decide) _ _ _ rfl (hown.alloc _) ⟨w1.heap.size, 0, none⟩ 1 1 [.int .u8 c] rfl rfl ?c1 ?c2 ?c3 ?c4 ?c5 ?_)
  case c1 =>
    intro j u hj
    match j, hj with
    | 0, hj => simp at hj; subst hj; simp [Addr.add]
  case c2 => intro u hu; simp at hu; subst hu; rfl
  case c3 => unfold maxLen; omega
  case c4 => omega
  case c5 => have := hb1.size; simp; omega
  intro v' w2 hown' hgrow _
  have hb2 : w2.heap[b]? = some (.cells #[.pointer (some ⟨b, 0, none⟩), v] 47 (0, 0)) := blk_grown (blk_alloc hbk _) hgrow (fun e => hne e.symm)
  have d1 : w2.cell? ⟨b, 1, none⟩ = some v := (blk_cell hb2 1).trans rfl
  have f1 : w2.frozen? ⟨b, 1, none⟩ = false := blk_frozen hb2 1
  obtain ⟨g, cap, rfl⟩ : ∃ g cap, v' = .slice (some ⟨g, 0, none⟩) (bs.length + 1) cap := by
    rcases hown'.2 with ⟨_, h0⟩ | ⟨g, cap, cur, fz, hv, _⟩
    · omega
    · exact ⟨g, cap, hv⟩
  go_wp2
  go_ret
  refine ⟨rfl, ?_, ?_, ((hk1.alloc _).grown hgrow (Lib.ownsRowF_kind (hown.alloc _))).setCell ⟨b, 1, none⟩ rfl _⟩
  · exact Lib.BuilderAtF.put (T := 47) (e := 5) hB hb2 (bs' := bs ++ [.int .u8 c]) (by simpa using hown') (by decide)
  · exact ((hb1.alloc (Nat.le_trans hBw hb1.size) _).grown hgrow (by have := hb1.size; simp; omega) (fun k hk => (hown.lt k hk).1)).setCell (p := ⟨b, 1, none⟩) hB _
/-- What a token is shown as, behind one of kind 'last'. -/
def showT (last : Int) (t : S32) : List UInt8 :=
  if t.f0 = 0 then (if last = 0 then 32 :: t.f2.data.toList else t.f2.data.toList) else if t.f0 = 1 then [10] else []
def showGo : Int → List S32 → List UInt8
  | _, [] => []
  | last, t :: ts => showT last t ++ showGo t.f0 ts
theorem showGo_drop (l : List S32) (j : Nat) (last : Int) (h : j < l.length) : showGo last (l.drop j) = showT last l[j] ++ showGo (l[j]).f0 (l.drop (j + 1)) := by
  rw [List.drop_eq_getElem_cons h, showGo]
theorem rd_at32 {l : List S32} {j : Nat} (h : j < l.length) : rd_T32 l (j : Int) = l[j] := by
  unfold rd_T32
  rw [Int.toNat_natCast, List.getD_eq_getElem?_getD, List.getElem?_eq_getElem h]
  rfl
theorem sizeL (s : ByteArray) : s.data.toList.length = s.size := by
  rw [Array.length_toList]
  rfl
theorem strCells_bytes (s : ByteArray) : Lib.strCells s = Lib.byteCells s.data.toList := rfl
set_option maxHeartbeats 8000000 in
set_option maxRecDepth 1000000 in
theorem show_calls (A0 : Option Addr) (c0 : Nat) (l : List S32) (w : World) (hr0 : Kd.C k32 w A0 l.length l) (hc0 : l.length ≤ c0) (hb : (showGo 2 l).length ≤ 140737488355328) :
    Calls Tryd.prog 14 #[.slice A0 l.length c0] w fun e w' => e = .returned (.string ⟨(showGo 2 l).toArray⟩) ∧ Below w.heap.size w w' := by
  have HC := Aside0.mk hr0
  have HBD := Aside0.mk hb
  have hmax := hr0.2.1
  clear hr0 hb
  go_enter Tryd.func14, Tryd.ntmps14
  go_wp2
  go_loopw [4, 9] (fun vk vi wr => ∃ (i k : Int) (acc : List UInt8), vi = .int .i64 i ∧ vk = .int .i64 k ∧ Aside0 (Lib.IsBuilderF 47 5 w.heap.size w.heap.size (Lib.byteCells acc) wr) ∧ Aside0 (Below w.heap.size w wr) ∧ Aside0 (acc ++ showGo k (l.drop i.toNat) = showGo 2 l) ∧ Aside0 (0 ≤ i ∧ i ≤ l.length)) (fun _ vi _ => l.length - (intOf vi).toNat)
  case atStart => exact ⟨0, 2, [], rfl, rfl, ⟨Lib.IsBuilderF.of (Lib.fresh_isBuilder 47 5 w)⟩, ⟨(Below.refl _ w).alloc (Nat.le_refl _) _⟩, ⟨rfl⟩, ⟨by omega⟩⟩
  case round =>
    obtain ⟨i, k, acc, rfl, rfl, hI, hbw, hacc, hi⟩ := hrel
    have hi0 := hi.out.1
    by_cases hp : i < (l.length : Int)
    · have hwr : IntKind.i64.wrap (i + 1) = i + 1 := by rw [IntKind.wrap_i64] <;> omega
      obtain ⟨ad, e1, hx0, hx1, hx2⟩ := at_T32 (Kd.C_below HC.out hbw.out) i hi0 hp
      subst e1
      obtain ⟨tk, htk⟩ : ∃ tk, tk = rd_T32 l i := ⟨_, rfl⟩
      have hdrop := showGo_drop l i.toNat k (by omega)
      rw [show l[i.toNat]'(by omega) = tk by rw [htk, ← rd_at32 (by omega), Int.toNat_of_nonneg hi0]] at hdrop
      rw [← htk] at hx0 hx1 hx2
      clear htk
      have hac := hacc.out
      rw [hdrop] at hac
      have hbd := HBD.out
      rw [← hac, List.length_append, List.length_append] at hbd
      have HBL := Aside0.mk hbd
      clear hbd hdrop
      have hI0 : Aside0 (w.heap.size < wr.heap.size) := ⟨by
        rcases hI.out with h | h
        · obtain ⟨_, v, hb, _⟩ := h
          exact blk_lt hb
        · obtain ⟨_, v, hb, _⟩ := h
          exact blk_lt hb⟩
      have HAC := Aside0.mk hac
      clear hac
      have HK : Aside0 (∀ w2 : World, Lib.OthersKept 5 (some w.heap.size) (wr.alloc (.cells #[.int .i64 tk.f0, .int .i64 tk.f1, .string tk.f2] 32)) w2 → w2.cell? ⟨wr.heap.size, 0, none⟩ = some (.int .i64 tk.f0)) := by
        refine ⟨fun w2 k1 => ?_⟩
        have hlt := hI0.out
        have t0 := k1 wr.heap.size (.cells #[.int .i64 tk.f0, .int .i64 tk.f1, .string tk.f2] 32) (blk_new wr _) (fun e => Nat.ne_of_gt hlt (Option.some.inj e)) (fun _ _ e => by cases e)
        exact (blk_cell t0 0).trans rfl
      have HSZ : Aside0 (w.heap.size ≤ (wr.alloc (.cells #[.int .i64 tk.f0, .int .i64 tk.f1, .string tk.f2] 32)).heap.size) := ⟨by
        have := hI0.out
        simp
        omega⟩
      by_cases h0 : tk.f0 = 0
      · have h0' : (tk.f0 == 0) = true := by rw [beq_iff_eq]; exact h0
        by_cases hk : k = 0
        · have hk' : (k == 0) = true := by rw [beq_iff_eq]; exact hk
          have hsh : showT k tk = 32 :: tk.f2.data.toList := by
            unfold showT
            rw [if_pos h0, if_pos hk]
          have hlen : acc.length + ((⟨#[32]⟩ : ByteArray) ++ tk.f2).size ≤ 140737488355328 := by
            have := HBL.out
            rw [hsh, List.length_cons, sizeL] at this
            rw [ByteArray.size_append]
            have e1 : (⟨#[32]⟩ : ByteArray).size = 1 := rfl
            omega
          have hz : (9223372036854775807 < (⟨#[32]⟩ : ByteArray).size + tk.f2.size) = False := eq_false (by
            rw [ByteArray.size_append] at hlen
            omega)
          have hz' : (9223372036854775807 < 1 + tk.f2.size) = False := hz
          have hbyt : ((⟨#[32]⟩ : ByteArray) ++ tk.f2).data.toList = 32 :: tk.f2.data.toList := by simp
          have HSH := Aside0.mk hsh
          have HLN : Aside0 ((Lib.byteCells acc).length + ((⟨#[32]⟩ : ByteArray) ++ tk.f2).size ≤ 140737488355328) := ⟨by rw [Lib.byteCells_length]; exact hlen⟩
          have HB2 := Aside0.mk hbyt
          clear h0 hk hsh hlen hbyt
          go_wp2_with (go_at_call 20; show Calls _ _ _ _ _; refine Calls.mono (R := fun e w' => e = .returned (.tuple #[.int .i64 ((⟨#[32]⟩ : ByteArray) ++ tk.f2).size, .nilIface]) ∧ Lib.BuilderAtF 47 5 w.heap.size w.heap.size (.pointer (some ⟨w.heap.size, 0, none⟩)) (Lib.byteCells acc ++ Lib.strCells ((⟨#[32]⟩ : ByteArray) ++ tk.f2)) w' ∧ Below w.heap.size (wr.alloc (.cells #[.int .i64 tk.f0, .int .i64 tk.f1, .string tk.f2] 32)) w' ∧ Lib.OthersKept 5 (some w.heap.size) (wr.alloc (.cells #[.int .i64 tk.f0, .int .i64 tk.f1, .string tk.f2] 32)) w') ?calls0 ?post0; (case calls0 => exact writeString_calls _ _ _ _ _ (hI.out.alloc _) HLN.out HSZ.out); rintro e w2 ⟨rfl, h1, b1, k1⟩; have t1 := HK.out w2 k1; have H1 := Aside0.mk h1; have B1 := Aside0.mk b1; clear h1 b1 k1)
          go_roundw
          case rel => exact ⟨i + 1, tk.f0, acc ++ (32 :: tk.f2.data.toList), rfl, rfl, ⟨.inr (by rw [Lib.byteCells_append]; have := H1.out; rw [strCells_bytes, HB2.out] at this; exact this)⟩, ⟨(hbw.out.alloc hbw.out.size _).trans B1.out⟩, ⟨by have := HAC.out; rw [HSH.out] at this; rw [show (i + 1).toNat = i.toNat + 1 by omega, ← this]; simp⟩, ⟨by omega⟩⟩
          case measure =>
            simp [intOf]
            omega
        · have hk' : (k == 0) = false := by rw [beq_eq_false_iff_ne]; exact hk
          have hsh : showT k tk = tk.f2.data.toList := by
            unfold showT
            rw [if_pos h0, if_neg hk]
          have hlen : acc.length + tk.f2.size ≤ 140737488355328 := by
            have := HBL.out
            rw [hsh, sizeL] at this
            omega
          have HSH := Aside0.mk hsh
          have HLN : Aside0 ((Lib.byteCells acc).length + tk.f2.size ≤ 140737488355328) := ⟨by rw [Lib.byteCells_length]; exact hlen⟩
          clear h0 hk hsh hlen
          go_wp2_with (go_at_call 20; show Calls _ _ _ _ _; refine Calls.mono (R := fun e w' => e = .returned (.tuple #[.int .i64 tk.f2.size, .nilIface]) ∧ Lib.BuilderAtF 47 5 w.heap.size w.heap.size (.pointer (some ⟨w.heap.size, 0, none⟩)) (Lib.byteCells acc ++ Lib.strCells tk.f2) w' ∧ Below w.heap.size (wr.alloc (.cells #[.int .i64 tk.f0, .int .i64 tk.f1, .string tk.f2] 32)) w' ∧ Lib.OthersKept 5 (some w.heap.size) (wr.alloc (.cells #[.int .i64 tk.f0, .int .i64 tk.f1, .string tk.f2] 32)) w') ?calls1 ?post1; (case calls1 => exact writeString_calls _ _ _ _ _ (hI.out.alloc _) HLN.out HSZ.out); rintro e w2 ⟨rfl, h1, b1, k1⟩; have t1 := HK.out w2 k1; have H1 := Aside0.mk h1; have B1 := Aside0.mk b1; clear h1 b1 k1)
          go_roundw
          case rel => exact ⟨i + 1, tk.f0, acc ++ tk.f2.data.toList, rfl, rfl, ⟨.inr (by rw [Lib.byteCells_append]; exact H1.out)⟩, ⟨(hbw.out.alloc hbw.out.size _).trans B1.out⟩, ⟨by have := HAC.out; rw [HSH.out] at this; rw [show (i + 1).toNat = i.toNat + 1 by omega, ← this]; simp⟩, ⟨by omega⟩⟩
          case measure =>
            simp [intOf]
            omega
      · have h0' : (tk.f0 == 0) = false := by rw [beq_eq_false_iff_ne]; exact h0
        by_cases h1 : tk.f0 = 1
        · have h1' : (tk.f0 == 1) = true := by rw [beq_iff_eq]; exact h1
          have hsh : showT k tk = [10] := by
            unfold showT
            rw [if_neg h0, if_pos h1]
          have hlen : acc.length + 1 ≤ 140737488355328 := by
            have := HBL.out
            rw [hsh, List.length_singleton] at this
            omega
          have HSH := Aside0.mk hsh
          have HLN : Aside0 ((Lib.byteCells acc).length + 1 ≤ 140737488355328) := ⟨by rw [Lib.byteCells_length]; exact hlen⟩
          clear h0 h1 hsh hlen
          go_wp2_with (go_at_call 21; show Calls _ _ _ _ _; refine Calls.mono (R := fun e w' => e = .returned (.nilIface) ∧ Lib.BuilderAtF 47 5 w.heap.size w.heap.size (.pointer (some ⟨w.heap.size, 0, none⟩)) (Lib.byteCells acc ++ [.int .u8 10]) w' ∧ Below w.heap.size (wr.alloc (.cells #[.int .i64 tk.f0, .int .i64 tk.f1, .string tk.f2] 32)) w' ∧ Lib.OthersKept 5 (some w.heap.size) (wr.alloc (.cells #[.int .i64 tk.f0, .int .i64 tk.f1, .string tk.f2] 32)) w') ?calls2 ?post2; (case calls2 => exact writeByte_calls _ _ _ _ _ (hI.out.alloc _) HLN.out HSZ.out); rintro e w2 ⟨rfl, h1, b1, k1⟩; have t1 := HK.out w2 k1; have H1 := Aside0.mk h1; have B1 := Aside0.mk b1; clear h1 b1 k1)
          go_roundw
          case rel => exact ⟨i + 1, tk.f0, acc ++ [10], rfl, rfl, ⟨.inr (by rw [Lib.byteCells_append]; exact H1.out)⟩, ⟨(hbw.out.alloc hbw.out.size _).trans B1.out⟩, ⟨by have := HAC.out; rw [HSH.out] at this; rw [show (i + 1).toNat = i.toNat + 1 by omega, ← this]; simp⟩, ⟨by omega⟩⟩
          case measure =>
            simp [intOf]
            omega
        · have h1' : (tk.f0 == 1) = false := by rw [beq_eq_false_iff_ne]; exact h1
          have hsh : showT k tk = [] := by
            unfold showT
            rw [if_neg h0, if_neg h1]
          have HSH := Aside0.mk hsh
          clear h0 h1 hsh
          go_wp2
          go_roundw
          case rel => exact ⟨i + 1, tk.f0, acc ++ [], rfl, rfl, ⟨by rw [List.append_nil]; exact hI.out.alloc _⟩, ⟨hbw.out.alloc hbw.out.size _⟩, ⟨by have := HAC.out; rw [HSH.out] at this; rw [show (i + 1).toNat = i.toNat + 1 by omega, ← this]; simp⟩, ⟨by omega⟩⟩
          case measure =>
            simp [intOf]
            omega
    · have hfin : acc = showGo 2 l := by
        have := hacc.out
        rw [List.drop_of_length_le (by have := hi.out; omega), showGo, List.append_nil] at this
        exact this
      go_wp2_with (go_at_call 22; refine (Tryd.Builder_String_any_k w.heap.size w.heap.size acc _ hI.out hbw.out.size).mono ?_; rintro e w2 ⟨rfl, _, b1, _⟩)
      go_ret
      exact ⟨by rw [← hfin]; rfl, hbw.out.trans b1⟩
def lex_Show.f (l0 : List (S32)) : Option (ByteArray) := if (showGo 2 l0).length ≤ 140737488355328 then some ⟨(showGo 2 l0).toArray⟩ else none
theorem lex_Show.calls (A0 : Option Addr) (c0 : Nat) (l0 : List (S32)) (r : ByteArray) (w : World) (hr0 : Kd.C k32 w A0 l0.length l0) (hc0 : l0.length ≤ c0) (h : lex_Show.f l0 = some r) :
    Calls Tryd.prog 14 #[.slice A0 l0.length c0] w fun e w' => e = .returned (.string r) ∧ Below w.heap.size w w' := by
  unfold lex_Show.f at h
  by_cases hb : (showGo 2 l0).length ≤ 140737488355328
  · rw [if_pos hb] at h
    rw [← Option.some.inj h]
    exact show_calls A0 c0 l0 w hr0 hc0 hb
  · rw [if_neg hb] at h
    cases h

/-! ### ridgewaylaw11_awake: function 9 -/
def ridgewaylaw11_awake.f  : Option (Bool) := (lex_All.f (⟨#[97, 115, 32, 55, 32, 35, 32, 195, 169, 10]⟩ : ByteArray)).bind fun bt105 => (if bt105.2.2 = 0 then (if bt105.2.1 = 9 then (if (bt105.1.length : Int) = 4 then (if 0 < (bt105.1.length : Int) then (if ((rd_T32 bt105.1 0).f2).toList = ([97, 115] : List UInt8) then (if 1 < (bt105.1.length : Int) then (if ((rd_T32 bt105.1 1).f1) = 3 then (if 2 < (bt105.1.length : Int) then (if ((rd_T32 bt105.1 2).f0) = 1 then (if ((rd_T32 bt105.1 2).f1) = 8 then (if 3 < (bt105.1.length : Int) then (if ((rd_T32 bt105.1 3).f0) = 2 then (if ((rd_T32 bt105.1 3).f1) = 9 then ((lex_Show.f bt105.1).bind fun t116 => (some (t116.toList == ([97, 115, 32, 55, 10] : List UInt8)))) else (none)) else (none)) else (none)) else (none)) else (none)) else (none)) else (none)) else (none)) else (none)) else (none)) else (none)) else (none)) else (none))
set_option maxHeartbeats 8000000 in
set_option maxRecDepth 100000 in
theorem ridgewaylaw11_awake.calls  (r : Bool) (w : World) (hT : Tabs w) (h : ridgewaylaw11_awake.f  = some r) :
    Calls Tryd.prog 9 #[] w fun e w' => e = .returned (.bool r) ∧ Below w.heap.size w w' := by
  have HT := Aside0.mk hT
  clear hT
  have HB := Aside0.mk (Below.refl w.heap.size w)
  have H : ((lex_All.f (⟨#[97, 115, 32, 55, 32, 35, 32, 195, 169, 10]⟩ : ByteArray)).bind fun bt105 => (if bt105.2.2 = 0 then (if bt105.2.1 = 9 then (if (bt105.1.length : Int) = 4 then (if 0 < (bt105.1.length : Int) then (if ((rd_T32 bt105.1 0).f2).toList = ([97, 115] : List UInt8) then (if 1 < (bt105.1.length : Int) then (if ((rd_T32 bt105.1 1).f1) = 3 then (if 2 < (bt105.1.length : Int) then (if ((rd_T32 bt105.1 2).f0) = 1 then (if ((rd_T32 bt105.1 2).f1) = 8 then (if 3 < (bt105.1.length : Int) then (if ((rd_T32 bt105.1 3).f0) = 2 then (if ((rd_T32 bt105.1 3).f1) = 9 then ((lex_Show.f bt105.1).bind fun t116 => (some (t116.toList == ([97, 115, 32, 55, 10] : List UInt8)))) else (none)) else (none)) else (none)) else (none)) else (none)) else (none)) else (none)) else (none)) else (none)) else (none)) else (none)) else (none)) else (none))) = some r := h
  clear h
  replace H := Option.bind_eq_some_iff.mp H
  obtain ⟨⟨t105, t106, t107⟩, A10, H⟩ := H
  replace H : (if t107 = 0 then (if t106 = 9 then (if (t105.length : Int) = 4 then (if 0 < (t105.length : Int) then (if ((rd_T32 t105 0).f2).toList = ([97, 115] : List UInt8) then (if 1 < (t105.length : Int) then (if ((rd_T32 t105 1).f1) = 3 then (if 2 < (t105.length : Int) then (if ((rd_T32 t105 2).f0) = 1 then (if ((rd_T32 t105 2).f1) = 8 then (if 3 < (t105.length : Int) then (if ((rd_T32 t105 3).f0) = 2 then (if ((rd_T32 t105 3).f1) = 9 then ((lex_Show.f t105).bind fun t116 => (some (t116.toList == ([97, 115, 32, 55, 10] : List UInt8)))) else (none)) else (none)) else (none)) else (none)) else (none)) else (none)) else (none)) else (none)) else (none)) else (none)) else (none)) else (none)) else (none)) = some r := H
  have A1 := Aside0.mk A10
  clear A10
  by_cases c2 : t107 = 0
  · rw [if_pos c2] at H
    have c2b0 : (t107 == 0) = true := beq_iff_eq.mpr c2
    have c2b1 : (t107 != 0) = false := bne_eq_false_iff_eq.mpr c2
    clear c2
    by_cases c3 : t106 = 9
    · rw [if_pos c3] at H
      have c3b0 : (t106 == 9) = true := beq_iff_eq.mpr c3
      have c3b1 : (t106 != 9) = false := bne_eq_false_iff_eq.mpr c3
      clear c3
      by_cases c4 : (t105.length : Int) = 4
      · rw [if_pos c4] at H
        have c4b0 : ((t105.length : Int) == 4) = true := beq_iff_eq.mpr c4
        have c4b1 : ((t105.length : Int) != 4) = false := bne_eq_false_iff_eq.mpr c4
        clear c4
        by_cases c5 : 0 < (t105.length : Int)
        · rw [if_pos c5] at H
          have c5b0 : decide (0 < (t105.length : Int)) = true := decide_eq_true c5
          have c5b1 : decide (0 < t105.length) = true := decide_eq_true (by omega)
          clear c5
          by_cases c6 : ((rd_T32 t105 0).f2).toList = ([97, 115] : List UInt8)
          · rw [if_pos c6] at H
            have c6b0 : (((rd_T32 t105 0).f2).toList == ([97, 115] : List UInt8)) = true := beq_iff_eq.mpr c6
            have c6b1 : (((rd_T32 t105 0).f2).toList != ([97, 115] : List UInt8)) = false := bne_eq_false_iff_eq.mpr c6
            clear c6
            by_cases c7 : 1 < (t105.length : Int)
            · rw [if_pos c7] at H
              have c7b0 : decide (1 < (t105.length : Int)) = true := decide_eq_true c7
              have c7b1 : decide (1 < t105.length) = true := decide_eq_true (by omega)
              clear c7
              by_cases c8 : ((rd_T32 t105 1).f1) = 3
              · rw [if_pos c8] at H
                have c8b0 : (((rd_T32 t105 1).f1) == 3) = true := beq_iff_eq.mpr c8
                have c8b1 : (((rd_T32 t105 1).f1) != 3) = false := bne_eq_false_iff_eq.mpr c8
                clear c8
                by_cases c9 : 2 < (t105.length : Int)
                · rw [if_pos c9] at H
                  have c9b0 : decide (2 < (t105.length : Int)) = true := decide_eq_true c9
                  have c9b1 : decide (2 < t105.length) = true := decide_eq_true (by omega)
                  clear c9
                  by_cases c10 : ((rd_T32 t105 2).f0) = 1
                  · rw [if_pos c10] at H
                    have c10b0 : (((rd_T32 t105 2).f0) == 1) = true := beq_iff_eq.mpr c10
                    have c10b1 : (((rd_T32 t105 2).f0) != 1) = false := bne_eq_false_iff_eq.mpr c10
                    clear c10
                    by_cases c11 : ((rd_T32 t105 2).f1) = 8
                    · rw [if_pos c11] at H
                      have c11b0 : (((rd_T32 t105 2).f1) == 8) = true := beq_iff_eq.mpr c11
                      have c11b1 : (((rd_T32 t105 2).f1) != 8) = false := bne_eq_false_iff_eq.mpr c11
                      clear c11
                      by_cases c12 : 3 < (t105.length : Int)
                      · rw [if_pos c12] at H
                        have c12b0 : decide (3 < (t105.length : Int)) = true := decide_eq_true c12
                        have c12b1 : decide (3 < t105.length) = true := decide_eq_true (by omega)
                        clear c12
                        by_cases c13 : ((rd_T32 t105 3).f0) = 2
                        · rw [if_pos c13] at H
                          have c13b0 : (((rd_T32 t105 3).f0) == 2) = true := beq_iff_eq.mpr c13
                          have c13b1 : (((rd_T32 t105 3).f0) != 2) = false := bne_eq_false_iff_eq.mpr c13
                          clear c13
                          by_cases c14 : ((rd_T32 t105 3).f1) = 9
                          · rw [if_pos c14] at H
                            have c14b0 : (((rd_T32 t105 3).f1) == 9) = true := beq_iff_eq.mpr c14
                            have c14b1 : (((rd_T32 t105 3).f1) != 9) = false := bne_eq_false_iff_eq.mpr c14
                            clear c14
                            replace H := Option.bind_eq_some_iff.mp H
                            obtain ⟨t116, A150, H⟩ := H
                            replace H : (some (t116.toList == ([97, 115, 32, 55, 10] : List UInt8))) = some r := H
                            have A15 := Aside0.mk A150
                            clear A150
                            obtain rfl := Option.some.inj H
                            go_enter Tryd.func9, Tryd.ntmps9
                            go_wp2_with (first | ((with_reducible refine gate_callee (f := 11) rfl ?_); refine goesL_ (some 5) rfl rfl Tryd.func11 (by kernel_rfl) rfl #[.string (⟨#[97, 115, 32, 55, 32, 35, 32, 195, 169, 10]⟩ : ByteArray)] rfl (by (try simp only [List.map_toArray, List.map_cons, List.map_nil]); first | done | rfl | (simp only [List.length_drop, List.length_take]; rfl)) ?_; (with_reducible refine (lex_All.calls (⟨#[97, 115, 32, 55, 32, 35, 32, 195, 169, 10]⟩ : ByteArray) t105 t106 t107 _ ?side1 A1.out).mono ?_); (case side1 => exact Tabs.below HT.out (by repeat (first | (with_reducible first | exact HB.out | apply below_alloc | apply pw_below_drewN | apply below_drew1) | exact HB.out))); rintro e w16 ⟨v108, rfl, ho0, hb⟩; refine ⟨_, rfl, ?_⟩; have n0_ := Aside0.mk (Kd.R_lower ho0 (below_size (by repeat (first | (with_reducible first | exact HB.out | apply below_alloc | apply pw_below_drewN | apply below_drew1) | exact HB.out)))); have n1_ := Aside0.mk (below_step (by repeat (first | (with_reducible first | exact HB.out | apply below_alloc | apply pw_below_drewN | apply below_drew1) | exact HB.out)) hb); clear HB; have HO109 := n0_; have HB := n1_; clear n0_ n1_; (try clear hb); (try clear hb2); (try clear hk); (try clear hi); (try clear ho0); obtain ⟨Ao17, co17, eo17⟩ := Kd.R_slice HO109.out; subst eo17; have p110 : 0 ≤ (0 : Int) := (by omega); have q110 : 0 < (t105.length : Int) := of_decide_eq_true (by first | (with_reducible assumption) | assumption); obtain ⟨ad110, e110, hx110_0, hx110_1, hx110_2⟩ := at_T32 (Kd.R_reads' HO109.out).2.2 0 p110 q110; cases e110; have qi110 : (0 < t105.length) = True := eq_true (by omega); (try rw [show ((0 : Int)).toNat = 0 from rfl] at hx110_0); (try rw [show 0 * 3 = 0 from rfl] at hx110_0); (try rw [Addr.add_zero'] at hx110_0); (try rw [show ((0 : Int)).toNat = 0 from rfl] at hx110_1); (try rw [show 0 * 3 = 0 from rfl] at hx110_1); (try rw [Addr.add_zero'] at hx110_1); (try rw [show ((0 : Int)).toNat = 0 from rfl] at hx110_2); (try rw [show 0 * 3 = 0 from rfl] at hx110_2); (try rw [Addr.add_zero'] at hx110_2); replace p110 := eq_true p110; replace q110 := eq_true q110; have p111 : 0 ≤ (1 : Int) := (by omega); have q111 : 1 < (t105.length : Int) := of_decide_eq_true (by first | (with_reducible assumption) | assumption); obtain ⟨ad111, e111, hx111_0, hx111_1, hx111_2⟩ := at_T32 (Kd.R_reads' HO109.out).2.2 1 p111 q111; obtain rfl : ad110 = ad111 := (by injection e111); (try simp only [show (1 : Int).toNat = 1 from rfl, Nat.reduceMul, Nat.reduceEqDiff, Go.Addr.add, ↓reduceIte] at hx111_0); (try simp only [show (1 : Int).toNat = 1 from rfl, Nat.reduceMul, Nat.reduceEqDiff, Go.Addr.add, ↓reduceIte] at hx111_1); (try simp only [show (1 : Int).toNat = 1 from rfl, Nat.reduceMul, Nat.reduceEqDiff, Go.Addr.add, ↓reduceIte] at hx111_2); have qi111 : (1 < t105.length) = True := eq_true (by omega); (try rw [show ((1 : Int)).toNat = 1 from rfl] at hx111_0); (try rw [show 1 * 3 = 3 from rfl] at hx111_0); (try rw [show ((1 : Int)).toNat = 1 from rfl] at hx111_1); (try rw [show 1 * 3 = 3 from rfl] at hx111_1); (try rw [show ((1 : Int)).toNat = 1 from rfl] at hx111_2); (try rw [show 1 * 3 = 3 from rfl] at hx111_2); replace p111 := eq_true p111; replace q111 := eq_true q111; have p112 : 0 ≤ (2 : Int) := (by omega); have q112 : 2 < (t105.length : Int) := of_decide_eq_true (by first | (with_reducible assumption) | assumption); obtain ⟨ad112, e112, hx112_0, hx112_1, hx112_2⟩ := at_T32 (Kd.R_reads' HO109.out).2.2 2 p112 q112; obtain rfl : ad110 = ad112 := (by injection e112); (try simp only [show (2 : Int).toNat = 2 from rfl, Nat.reduceMul, Nat.reduceEqDiff, Go.Addr.add, ↓reduceIte] at hx112_0); (try simp only [show (2 : Int).toNat = 2 from rfl, Nat.reduceMul, Nat.reduceEqDiff, Go.Addr.add, ↓reduceIte] at hx112_1); (try simp only [show (2 : Int).toNat = 2 from rfl, Nat.reduceMul, Nat.reduceEqDiff, Go.Addr.add, ↓reduceIte] at hx112_2); have qi112 : (2 < t105.length) = True := eq_true (by omega); (try rw [show ((2 : Int)).toNat = 2 from rfl] at hx112_0); (try rw [show 2 * 3 = 6 from rfl] at hx112_0); (try rw [show ((2 : Int)).toNat = 2 from rfl] at hx112_1); (try rw [show 2 * 3 = 6 from rfl] at hx112_1); (try rw [show ((2 : Int)).toNat = 2 from rfl] at hx112_2); (try rw [show 2 * 3 = 6 from rfl] at hx112_2); replace p112 := eq_true p112; replace q112 := eq_true q112; have p113 : 0 ≤ (2 : Int) := (by omega); have q113 : 2 < (t105.length : Int) := of_decide_eq_true (by first | (with_reducible assumption) | assumption); obtain ⟨ad113, e113, hx113_0, hx113_1, hx113_2⟩ := at_T32 (Kd.R_reads' HO109.out).2.2 2 p113 q113; obtain rfl : ad110 = ad113 := (by injection e113); (try simp only [show (2 : Int).toNat = 2 from rfl, Nat.reduceMul, Nat.reduceEqDiff, Go.Addr.add, ↓reduceIte] at hx113_0); (try simp only [show (2 : Int).toNat = 2 from rfl, Nat.reduceMul, Nat.reduceEqDiff, Go.Addr.add, ↓reduceIte] at hx113_1); (try simp only [show (2 : Int).toNat = 2 from rfl, Nat.reduceMul, Nat.reduceEqDiff, Go.Addr.add, ↓reduceIte] at hx113_2); have qi113 : (2 < t105.length) = True := eq_true (by omega); (try rw [show ((2 : Int)).toNat = 2 from rfl] at hx113_0); (try rw [show 2 * 3 = 6 from rfl] at hx113_0); (try rw [show ((2 : Int)).toNat = 2 from rfl] at hx113_1); (try rw [show 2 * 3 = 6 from rfl] at hx113_1); (try rw [show ((2 : Int)).toNat = 2 from rfl] at hx113_2); (try rw [show 2 * 3 = 6 from rfl] at hx113_2); replace p113 := eq_true p113; replace q113 := eq_true q113; have p114 : 0 ≤ (3 : Int) := (by omega); have q114 : 3 < (t105.length : Int) := of_decide_eq_true (by first | (with_reducible assumption) | assumption); obtain ⟨ad114, e114, hx114_0, hx114_1, hx114_2⟩ := at_T32 (Kd.R_reads' HO109.out).2.2 3 p114 q114; obtain rfl : ad110 = ad114 := (by injection e114); (try simp only [show (3 : Int).toNat = 3 from rfl, Nat.reduceMul, Nat.reduceEqDiff, Go.Addr.add, ↓reduceIte] at hx114_0); (try simp only [show (3 : Int).toNat = 3 from rfl, Nat.reduceMul, Nat.reduceEqDiff, Go.Addr.add, ↓reduceIte] at hx114_1); (try simp only [show (3 : Int).toNat = 3 from rfl, Nat.reduceMul, Nat.reduceEqDiff, Go.Addr.add, ↓reduceIte] at hx114_2); have qi114 : (3 < t105.length) = True := eq_true (by omega); (try rw [show ((3 : Int)).toNat = 3 from rfl] at hx114_0); (try rw [show 3 * 3 = 9 from rfl] at hx114_0); (try rw [show ((3 : Int)).toNat = 3 from rfl] at hx114_1); (try rw [show 3 * 3 = 9 from rfl] at hx114_1); (try rw [show ((3 : Int)).toNat = 3 from rfl] at hx114_2); (try rw [show 3 * 3 = 9 from rfl] at hx114_2); replace p114 := eq_true p114; replace q114 := eq_true q114; have p115 : 0 ≤ (3 : Int) := (by omega); have q115 : 3 < (t105.length : Int) := of_decide_eq_true (by first | (with_reducible assumption) | assumption); obtain ⟨ad115, e115, hx115_0, hx115_1, hx115_2⟩ := at_T32 (Kd.R_reads' HO109.out).2.2 3 p115 q115; obtain rfl : ad110 = ad115 := (by injection e115); (try simp only [show (3 : Int).toNat = 3 from rfl, Nat.reduceMul, Nat.reduceEqDiff, Go.Addr.add, ↓reduceIte] at hx115_0); (try simp only [show (3 : Int).toNat = 3 from rfl, Nat.reduceMul, Nat.reduceEqDiff, Go.Addr.add, ↓reduceIte] at hx115_1); (try simp only [show (3 : Int).toNat = 3 from rfl, Nat.reduceMul, Nat.reduceEqDiff, Go.Addr.add, ↓reduceIte] at hx115_2); have qi115 : (3 < t105.length) = True := eq_true (by omega); (try rw [show ((3 : Int)).toNat = 3 from rfl] at hx115_0); (try rw [show 3 * 3 = 9 from rfl] at hx115_0); (try rw [show ((3 : Int)).toNat = 3 from rfl] at hx115_1); (try rw [show 3 * 3 = 9 from rfl] at hx115_1); (try rw [show ((3 : Int)).toNat = 3 from rfl] at hx115_2); (try rw [show 3 * 3 = 9 from rfl] at hx115_2); replace p115 := eq_true p115; replace q115 := eq_true q115) | (go_at_call 14; (with_reducible refine (lex_Show.calls _ _ t105 t116 _ ?side1 ?side2 A15.out).mono ?_); (case side1 => repeat (first | exact (Kd.R_reads' HO109.out).2.2 | (with_reducible refine Kd.C_alloc ?_ _) | (with_reducible refine Kd.C_drewN ?_ _) | (with_reducible refine Kd.C_drew ?_))); (case side2 => exact (Kd.R_reads' HO109.out).2.1); rintro e w18 ⟨rfl, hb⟩; have n0_ := Aside0.mk (Kd.R_below (by (with_reducible repeat (first | apply Kd.R_alloc | apply Kd.R_drewN | apply Kd.R_drew)); exact HO109.out) hb); have n1_ := Aside0.mk (below_step (by repeat (first | (with_reducible first | exact HB.out | apply below_alloc | apply pw_below_drewN | apply below_drew1) | exact HB.out)) hb); clear HO109; clear HB; have HO109 := n0_; have HB := n1_; clear n0_ n1_; (try clear hb); (try clear hb2); (try clear hk); (try clear hi)))
                            go_ret
                            exact ⟨by first | rfl | (simp [errW_none, errW_some] <;> rfl) | (simp [*, errW_none, errW_some] <;> rfl), by repeat (first | (with_reducible first | exact HB.out | apply below_alloc | apply pw_below_drewN | apply below_drew1) | exact HB.out)⟩
                          · rw [if_neg c14] at H
                            exact absurd H (by simp)
                        · rw [if_neg c13] at H
                          exact absurd H (by simp)
                      · rw [if_neg c12] at H
                        exact absurd H (by simp)
                    · rw [if_neg c11] at H
                      exact absurd H (by simp)
                  · rw [if_neg c10] at H
                    exact absurd H (by simp)
                · rw [if_neg c9] at H
                  exact absurd H (by simp)
              · rw [if_neg c8] at H
                exact absurd H (by simp)
            · rw [if_neg c7] at H
              exact absurd H (by simp)
          · rw [if_neg c6] at H
            exact absurd H (by simp)
        · rw [if_neg c5] at H
          exact absurd H (by simp)
      · rw [if_neg c4] at H
        exact absurd H (by simp)
    · rw [if_neg c3] at H
      exact absurd H (by simp)
  · rw [if_neg c2] at H
    exact absurd H (by simp)

/-! ### utf8_DecodeRuneInString: function 16 (ours) -/

def utf8_DecodeRuneInString.f (a0 : ByteArray) : Option (Int × Int) := some (((Utf8.decode a0 0).1 : Int), ((Utf8.decode a0 0).2 : Int))

end Go.Proofs.YtmohglifmoecnaaDoor.PPla
