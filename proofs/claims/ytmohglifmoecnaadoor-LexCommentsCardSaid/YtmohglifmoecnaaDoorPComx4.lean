-- Written by a program of this session's (wip/tools), out of the translation. Lean checks it.
import Derived.Test.YtmohglifmoecnaaDoorPComx0
import Derived.Test.YtmohglifmoecnaaDoorPComx1
import Derived.Test.YtmohglifmoecnaaDoorPComx3
namespace Go.Proofs.YtmohglifmoecnaaDoor.PCom
open Go.RowKit Go.Proofs.YtmohglifmoecnaaDoorW.PrintWords Go.Proofs.YtmohglifmoecnaaDoorW.PrintLast Go.Proofs.YtmohglifmoecnaaDoorW.PrintMore
attribute [local go_sem] max2_int min2_int max_two min_two max_three min_three max_four min_four   -- for this text's walks alone
set_option linter.unusedVariables false
set_option linter.unusedSimpArgs false

attribute [local go_sem high] eqA32
/-! ### lex_Show: function 14 (ours) -/

theorem info47 : (Tryd.prog.info? 47).map (·.size) = some 2 := by kernel_rfl
theorem lies47 : liesAt Tryd.prog Tryd.prog.depth 47 (2 / Tryd.prog.cellsOf 47) 0 47 1 = true := by kernel_rfl
set_option maxHeartbeats 2000000 in
set_option maxRecDepth 1000000 in
/-- Behind copyCheck a builder of this walk's own holds its own address. -/
theorem check_calls (B b : Nat) (bs : List Value) (w : World) (h : Lib.IsBuilderF 47 5 B b bs w) :
    Calls Tryd.prog 26 #[.pointer (some ⟨b, 0, none⟩)] w fun e w' => e = .returned (.tuple #[]) ∧ Lib.BuilderAtF 47 5 B b (.pointer (some ⟨b, 0, none⟩)) bs w' ∧ Below B w w' ∧ Lib.OthersKept 5 (some b) w w' := by
  obtain ⟨j, hj, hjs⟩ := Option.map_eq_some_iff.1 info47
  rcases h with h | h
  · have h0 := h.cell0
    have hsh := h.shape
    have hfz := h.frozen0
    have hu := h.used (.pointer (some ⟨b, 0, none⟩))
    go_enter Tryd.func26, Tryd.ntmps26
    go_wp2
    rw [Lib.run_to_unsafe w ⟨b, 0, none⟩ Tryd.underlying45 Tryd.underlying61 hj (by rw [hjs]; decide) hsh (Nat.zero_lt_succ 1)]
    simp only [Result.andThen]
    rw [Oper.upon_value]
    go_wp2
    rw [run_callFunc_extern Tryd.func28 (by kernel_rfl) (by kernel_rfl) (by kernel_rfl) (e := Extern.AbiNoEscape.same) (by kernel_rfl)]
    rw [Lib.run_noEscape]
    simp only [Result.andThen]
    rw [Oper.upon_value]
    go_wp2
    rw [Lib.run_from_unsafe w ⟨b, 0, none⟩ Tryd.underlying61 Tryd.underlying45 hj hsh lies47]
    simp only [Result.andThen]
    rw [Oper.upon_value]
    go_wp2
    go_end0
    exact ⟨rfl, hu, (Below.refl B w).setCell (p := ⟨b, 0, none⟩) h.1 _, (Lib.OthersKept.refl _ _ w).setCell ⟨b, 0, none⟩ rfl _⟩
  · have h0 := h.cell0
    go_enter Tryd.func26, Tryd.ntmps26
    go_wp2
    rw [Lib.run_neq_ptr_same w _ Tryd.underlying45 hj]
    go_wp2
    go_end0
    exact ⟨rfl, h, Below.refl B _, Lib.OthersKept.refl _ _ _⟩
theorem info5' : ∃ i0, Tryd.prog.info? 5 = some i0 ∧ i0.zero = some (.int .u8 0) ∧ i0.size = 1 ∧ i0.bytes = 1 := by
  obtain ⟨i0, hi, hzz⟩ := Option.map_eq_some_iff.1 info5
  simp only [Prod.mk.injEq] at hzz
  exact ⟨i0, hi, hzz⟩
set_option maxHeartbeats 4000000 in
set_option maxRecDepth 1000000 in
theorem writeString_calls (B b : Nat) (bs : List Value) (s : ByteArray) (w : World) (h : Lib.IsBuilderF 47 5 B b bs w) (hlen : bs.length + s.size ≤ 140737488355328) (hBw : B ≤ w.heap.size) :
    Calls Tryd.prog 20 #[.pointer (some ⟨b, 0, none⟩), .string s] w fun e w' => e = .returned (.tuple #[.int .i64 s.size, .nilIface]) ∧ Lib.BuilderAtF 47 5 B b (.pointer (some ⟨b, 0, none⟩)) (bs ++ Lib.strCells s) w' ∧ Below B w w' ∧ Lib.OthersKept 5 (some b) w w' := by
  obtain ⟨i0, hi, hz0, hz1, hz2⟩ := info5'
  go_enter Tryd.func20, Tryd.ntmps20
  go_wp2_with (go_at_call 26; refine (check_calls B b bs _ h).mono ?_)
  rintro e w1 ⟨rfl, h1, hb1, hk1⟩
  obtain ⟨hB, v, hbk, hown, hne⟩ := h1
  have c1 : w1.cell? ⟨b, 1, none⟩ = some v := (blk_cell hbk 1).trans rfl
  go_wp2_with (at_builtin; refine Lib.wpList_append_own_stringF _ rfl _ _ 35 9 rfl B 5 i0 Tryd.underlying35 Tryd.underlying9 hi hz0 hz1 hz2 _ _ _ rfl hown s rfl ?c3 ?c4 ?c5 ?_)
  case c3 => unfold maxLen; omega
  case c4 => omega
  case c5 => exact Nat.le_trans hBw hb1.size
  intro v' w2 hown' hgrow _
  have hb2 : w2.heap[b]? = some (.cells #[.pointer (some ⟨b, 0, none⟩), v] 47 (0, 0)) := blk_grown hbk hgrow (fun e => hne e.symm)
  have d1 : w2.cell? ⟨b, 1, none⟩ = some v := (blk_cell hb2 1).trans rfl
  have f1 : w2.frozen? ⟨b, 1, none⟩ = false := blk_frozen hb2 1
  obtain ⟨ao, n', cap, rfl⟩ : ∃ ao n' cap, v' = .slice ao n' cap := by
    rcases hown'.2 with ⟨hv, _⟩ | ⟨g, cap, cur, fz, hv, _⟩
    · exact ⟨_, _, _, hv⟩
    · exact ⟨_, _, _, hv⟩
  go_wp2
  go_ret2
  refine ⟨rfl, ?_, ?_, (hk1.grown hgrow (Lib.ownsRowF_kind hown)).setCell ⟨b, 1, none⟩ rfl _⟩
  · exact Lib.BuilderAtF.put (T := 47) (e := 5) hB hb2 (bs' := bs ++ Lib.strCells s) (by simpa [Lib.strCells_length] using hown') (by decide)
  · exact (hb1.grown hgrow (Nat.le_trans hBw hb1.size) (fun k hk => (hown.lt k hk).1)).setCell (p := ⟨b, 1, none⟩) hB _
set_option maxHeartbeats 4000000 in
set_option maxRecDepth 1000000 in
theorem writeByte_calls (B b : Nat) (bs : List Value) (c : Int) (w : World) (h : Lib.IsBuilderF 47 5 B b bs w) (hlen : bs.length + 1 ≤ 140737488355328) (hBw : B ≤ w.heap.size) :
    Calls Tryd.prog 21 #[.pointer (some ⟨b, 0, none⟩), .int .u8 c] w fun e w' => e = .returned .nilIface ∧ Lib.BuilderAtF 47 5 B b (.pointer (some ⟨b, 0, none⟩)) (bs ++ [.int .u8 c]) w' ∧ Below B w w' ∧ Lib.OthersKept 5 (some b) w w' := by
  obtain ⟨i0, hi, hz0, hz1, hz2⟩ := info5'
  go_enter Tryd.func21, Tryd.ntmps21
  go_wp2_with (go_at_call 26; refine (check_calls B b bs _ h).mono ?_)
  rintro e w1 ⟨rfl, h1, hb1, hk1⟩
  obtain ⟨hB, v, hbk, hown, hne⟩ := h1
  have c1 : w1.cell? ⟨b, 1, none⟩ = some v := (blk_cell hbk 1).trans rfl
  have c1' : (w1.alloc (.cells #[.int .u8 c] 5)).cell? ⟨b, 1, none⟩ = some v := (blk_cell (blk_alloc hbk _) 1).trans rfl
  go_wp2_with (at_builtin; refine wpList_append_ownF _ rfl _ _ 35 rfl B 5 i0 (.int .u8 0) 1 1 Tryd.underlying35 hi hz0 hz1 hz2 rfl (by decide) _ _ _ rfl (hown.alloc _) ⟨w1.heap.size, 0, none⟩ 1 1 [.int .u8 c] rfl rfl ?c1 ?c2 ?c3 ?c4 ?c5 ?_)
  case c1 =>
    intro j u hj
    match j, hj with
    | 0, hj => simp at hj; subst hj; simp [Addr.add]
  case c2 => intro u hu; simp at hu; subst hu; rfl
  case c3 => unfold maxLen; omega
  case c4 => omega
  case c5 => have := hb1.size; simp; omega
  intro v' w2 hown' hgrow _
  have hb2 : w2.heap[b]? = some (.cells #[.pointer (some ⟨b, 0, none⟩), v] 47 (0, 0)) := blk_grown (blk_alloc hbk _) hgrow (fun e => hne e.symm)
  have d1 : w2.cell? ⟨b, 1, none⟩ = some v := (blk_cell hb2 1).trans rfl
  have f1 : w2.frozen? ⟨b, 1, none⟩ = false := blk_frozen hb2 1
  obtain ⟨g, cap, rfl⟩ : ∃ g cap, v' = .slice (some ⟨g, 0, none⟩) (bs.length + 1) cap := by
    rcases hown'.2 with ⟨_, h0⟩ | ⟨g, cap, cur, fz, hv, _⟩
    · omega
    · exact ⟨g, cap, hv⟩
  go_wp2
  go_ret
  refine ⟨rfl, ?_, ?_, ((hk1.alloc _).grown hgrow (Lib.ownsRowF_kind (hown.alloc _))).setCell ⟨b, 1, none⟩ rfl _⟩
  · exact Lib.BuilderAtF.put (T := 47) (e := 5) hB hb2 (bs' := bs ++ [.int .u8 c]) (by simpa using hown') (by decide)
  · exact ((hb1.alloc (Nat.le_trans hBw hb1.size) _).grown hgrow (by have := hb1.size; simp; omega) (fun k hk => (hown.lt k hk).1)).setCell (p := ⟨b, 1, none⟩) hB _
/-- What a token is shown as, behind one of kind 'last'. -/
def showT (last : Int) (t : S32) : List UInt8 :=
  if t.f0 = 0 then (if last = 0 then 32 :: t.f2.data.toList else t.f2.data.toList) else if t.f0 = 1 then [10] else []
def showGo : Int → List S32 → List UInt8
  | _, [] => []
  | last, t :: ts => showT last t ++ showGo t.f0 ts
theorem showGo_drop (l : List S32) (j : Nat) (last : Int) (h : j < l.length) : showGo last (l.drop j) = showT last l[j] ++ showGo (l[j]).f0 (l.drop (j + 1)) := by
  rw [List.drop_eq_getElem_cons h, showGo]
theorem rd_at32 {l : List S32} {j : Nat} (h : j < l.length) : rd_T32 l (j : Int) = l[j] := by
  unfold rd_T32
  rw [Int.toNat_natCast, List.getD_eq_getElem?_getD, List.getElem?_eq_getElem h]
  rfl
theorem sizeL (s : ByteArray) : s.data.toList.length = s.size := by
  rw [Array.length_toList]
  rfl
theorem strCells_bytes (s : ByteArray) : Lib.strCells s = Lib.byteCells s.data.toList := rfl
set_option maxHeartbeats 8000000 in
set_option maxRecDepth 1000000 in
theorem show_calls (A0 : Option Addr) (c0 : Nat) (l : List S32) (w : World) (hr0 : Kd.C k32 w A0 l.length l) (hc0 : l.length ≤ c0) (hb : (showGo 2 l).length ≤ 140737488355328) :
    Calls Tryd.prog 14 #[.slice A0 l.length c0] w fun e w' => e = .returned (.string ⟨(showGo 2 l).toArray⟩) ∧ Below w.heap.size w w' := by
  have HC := Aside0.mk hr0
  have HBD := Aside0.mk hb
  have hmax := hr0.2.1
  clear hr0 hb
  go_enter Tryd.func14, Tryd.ntmps14
  go_wp2
  go_loopw [4, 9] (fun vk vi wr => ∃ (i k : Int) (acc : List UInt8), vi = .int .i64 i ∧ vk = .int .i64 k ∧ Aside0 (Lib.IsBuilderF 47 5 w.heap.size w.heap.size (Lib.byteCells acc) wr) ∧ Aside0 (Below w.heap.size w wr) ∧ Aside0 (acc ++ showGo k (l.drop i.toNat) = showGo 2 l) ∧ Aside0 (0 ≤ i ∧ i ≤ l.length)) (fun _ vi _ => l.length - (intOf vi).toNat)
  case atStart => exact ⟨0, 2, [], rfl, rfl, ⟨Lib.IsBuilderF.of (Lib.fresh_isBuilder 47 5 w)⟩, ⟨(Below.refl _ w).alloc (Nat.le_refl _) _⟩, ⟨rfl⟩, ⟨by omega⟩⟩
  case round =>
    obtain ⟨i, k, acc, rfl, rfl, hI, hbw, hacc, hi⟩ := hrel
    have hi0 := hi.out.1
    by_cases hp : i < (l.length : Int)
    · have hwr : IntKind.i64.wrap (i + 1) = i + 1 := by rw [IntKind.wrap_i64] <;> omega
      obtain ⟨ad, e1, hx0, hx1, hx2⟩ := at_T32 (Kd.C_below HC.out hbw.out) i hi0 hp
      subst e1
      obtain ⟨tk, htk⟩ : ∃ tk, tk = rd_T32 l i := ⟨_, rfl⟩
      have hdrop := showGo_drop l i.toNat k (by omega)
      rw [show l[i.toNat]'(by omega) = tk by rw [htk, ← rd_at32 (by omega), Int.toNat_of_nonneg hi0]] at hdrop
      rw [← htk] at hx0 hx1 hx2
      clear htk
      have hac := hacc.out
      rw [hdrop] at hac
      have hbd := HBD.out
      rw [← hac, List.length_append, List.length_append] at hbd
      have HBL := Aside0.mk hbd
      clear hbd hdrop
      have hI0 : Aside0 (w.heap.size < wr.heap.size) := ⟨by
        rcases hI.out with h | h
        · obtain ⟨_, v, hb, _⟩ := h
          exact blk_lt hb
        · obtain ⟨_, v, hb, _⟩ := h
          exact blk_lt hb⟩
      have HAC := Aside0.mk hac
      clear hac
      have HK : Aside0 (∀ w2 : World, Lib.OthersKept 5 (some w.heap.size) (wr.alloc (.cells #[.int .i64 tk.f0, .int .i64 tk.f1, .string tk.f2] 32)) w2 → w2.cell? ⟨wr.heap.size, 0, none⟩ = some (.int .i64 tk.f0)) := by
        refine ⟨fun w2 k1 => ?_⟩
        have hlt := hI0.out
        have t0 := k1 wr.heap.size (.cells #[.int .i64 tk.f0, .int .i64 tk.f1, .string tk.f2] 32) (blk_new wr _) (fun e => Nat.ne_of_gt hlt (Option.some.inj e)) (fun _ _ e => by cases e)
        exact (blk_cell t0 0).trans rfl
      have HSZ : Aside0 (w.heap.size ≤ (wr.alloc (.cells #[.int .i64 tk.f0, .int .i64 tk.f1, .string tk.f2] 32)).heap.size) := ⟨by
        have := hI0.out
        simp
        omega⟩
      by_cases h0 : tk.f0 = 0
      · have h0' : (tk.f0 == 0) = true := by rw [beq_iff_eq]; exact h0
        by_cases hk : k = 0
        · have hk' : (k == 0) = true := by rw [beq_iff_eq]; exact hk
          have hsh : showT k tk = 32 :: tk.f2.data.toList := by
            unfold showT
            rw [if_pos h0, if_pos hk]
          have hlen : acc.length + ((⟨#[32]⟩ : ByteArray) ++ tk.f2).size ≤ 140737488355328 := by
            have := HBL.out
            rw [hsh, List.length_cons, sizeL] at this
            rw [ByteArray.size_append]
            have e1 : (⟨#[32]⟩ : ByteArray).size = 1 := rfl
            omega
          have hz : (9223372036854775807 < (⟨#[32]⟩ : ByteArray).size + tk.f2.size) = False := eq_false (by
            rw [ByteArray.size_append] at hlen
            omega)
          have hz' : (9223372036854775807 < 1 + tk.f2.size) = False := hz
          have hbyt : ((⟨#[32]⟩ : ByteArray) ++ tk.f2).data.toList = 32 :: tk.f2.data.toList := by simp
          have HSH := Aside0.mk hsh
          have HLN : Aside0 ((Lib.byteCells acc).length + ((⟨#[32]⟩ : ByteArray) ++ tk.f2).size ≤ 140737488355328) := ⟨by rw [Lib.byteCells_length]; exact hlen⟩
          have HB2 := Aside0.mk hbyt
          clear h0 hk hsh hlen hbyt
          go_wp2_with (go_at_call 20; show Calls _ _ _ _ _; refine Calls.mono (R := fun e w' => e = .returned (.tuple #[.int .i64 ((⟨#[32]⟩ : ByteArray) ++ tk.f2).size, .nilIface]) ∧ Lib.BuilderAtF 47 5 w.heap.size w.heap.size (.pointer (some ⟨w.heap.size, 0, none⟩)) (Lib.byteCells acc ++ Lib.strCells ((⟨#[32]⟩ : ByteArray) ++ tk.f2)) w' ∧ Below w.heap.size (wr.alloc (.cells #[.int .i64 tk.f0, .int .i64 tk.f1, .string tk.f2] 32)) w' ∧ Lib.OthersKept 5 (some w.heap.size) (wr.alloc (.cells #[.int .i64 tk.f0, .int .i64 tk.f1, .string tk.f2] 32)) w') ?calls0 ?post0; (case calls0 => exact writeString_calls _ _ _ _ _ (hI.out.alloc _) HLN.out HSZ.out); rintro e w2 ⟨rfl, h1, b1, k1⟩; have t1 := HK.out w2 k1; have H1 := Aside0.mk h1; have B1 := Aside0.mk b1; clear h1 b1 k1)
          go_roundw
          case rel => exact ⟨i + 1, tk.f0, acc ++ (32 :: tk.f2.data.toList), rfl, rfl, ⟨.inr (by rw [Lib.byteCells_append]; have := H1.out; rw [strCells_bytes, HB2.out] at this; exact this)⟩, ⟨(hbw.out.alloc hbw.out.size _).trans B1.out⟩, ⟨by have := HAC.out; rw [HSH.out] at this; rw [show (i + 1).toNat = i.toNat + 1 by omega, ← this]; simp⟩, ⟨by omega⟩⟩
          case measure =>
            simp [intOf]
            omega
        · have hk' : (k == 0) = false := by rw [beq_eq_false_iff_ne]; exact hk
          have hsh : showT k tk = tk.f2.data.toList := by
            unfold showT
            rw [if_pos h0, if_neg hk]
          have hlen : acc.length + tk.f2.size ≤ 140737488355328 := by
            have := HBL.out
            rw [hsh, sizeL] at this
            omega
          have HSH := Aside0.mk hsh
          have HLN : Aside0 ((Lib.byteCells acc).length + tk.f2.size ≤ 140737488355328) := ⟨by rw [Lib.byteCells_length]; exact hlen⟩
          clear h0 hk hsh hlen
          go_wp2_with (go_at_call 20; show Calls _ _ _ _ _; refine Calls.mono (R := fun e w' => e = .returned (.tuple #[.int .i64 tk.f2.size, .nilIface]) ∧ Lib.BuilderAtF 47 5 w.heap.size w.heap.size (.pointer (some ⟨w.heap.size, 0, none⟩)) (Lib.byteCells acc ++ Lib.strCells tk.f2) w' ∧ Below w.heap.size (wr.alloc (.cells #[.int .i64 tk.f0, .int .i64 tk.f1, .string tk.f2] 32)) w' ∧ Lib.OthersKept 5 (some w.heap.size) (wr.alloc (.cells #[.int .i64 tk.f0, .int .i64 tk.f1, .string tk.f2] 32)) w') ?calls1 ?post1; (case calls1 => exact writeString_calls _ _ _ _ _ (hI.out.alloc _) HLN.out HSZ.out); rintro e w2 ⟨rfl, h1, b1, k1⟩; have t1 := HK.out w2 k1; have H1 := Aside0.mk h1; have B1 := Aside0.mk b1; clear h1 b1 k1)
          go_roundw
          case rel => exact ⟨i + 1, tk.f0, acc ++ tk.f2.data.toList, rfl, rfl, ⟨.inr (by rw [Lib.byteCells_append]; exact H1.out)⟩, ⟨(hbw.out.alloc hbw.out.size _).trans B1.out⟩, ⟨by have := HAC.out; rw [HSH.out] at this; rw [show (i + 1).toNat = i.toNat + 1 by omega, ← this]; simp⟩, ⟨by omega⟩⟩
          case measure =>
            simp [intOf]
            omega
      · have h0' : (tk.f0 == 0) = false := by rw [beq_eq_false_iff_ne]; exact h0
        by_cases h1 : tk.f0 = 1
        · have h1' : (tk.f0 == 1) = true := by rw [beq_iff_eq]; exact h1
          have hsh : showT k tk = [10] := by
            unfold showT
            rw [if_neg h0, if_pos h1]
          have hlen : acc.length + 1 ≤ 140737488355328 := by
            have := HBL.out
            rw [hsh, List.length_singleton] at this
            omega
          have HSH := Aside0.mk hsh
          have HLN : Aside0 ((Lib.byteCells acc).length + 1 ≤ 140737488355328) := ⟨by rw [Lib.byteCells_length]; exact hlen⟩
          clear h0 h1 hsh hlen
          go_wp2_with (go_at_call 21; show Calls _ _ _ _ _; refine Calls.mono (R := fun e w' => e = .returned (.nilIface) ∧ Lib.BuilderAtF 47 5 w.heap.size w.heap.size (.pointer (some ⟨w.heap.size, 0, none⟩)) (Lib.byteCells acc ++ [.int .u8 10]) w' ∧ Below w.heap.size (wr.alloc (.cells #[.int .i64 tk.f0, .int .i64 tk.f1, .string tk.f2] 32)) w' ∧ Lib.OthersKept 5 (some w.heap.size) (wr.alloc (.cells #[.int .i64 tk.f0, .int .i64 tk.f1, .string tk.f2] 32)) w') ?calls2 ?post2; (case calls2 => exact writeByte_calls _ _ _ _ _ (hI.out.alloc _) HLN.out HSZ.out); rintro e w2 ⟨rfl, h1, b1, k1⟩; have t1 := HK.out w2 k1; have H1 := Aside0.mk h1; have B1 := Aside0.mk b1; clear h1 b1 k1)
          go_roundw
          case rel => exact ⟨i + 1, tk.f0, acc ++ [10], rfl, rfl, ⟨.inr (by rw [Lib.byteCells_append]; exact H1.out)⟩, ⟨(hbw.out.alloc hbw.out.size _).trans B1.out⟩, ⟨by have := HAC.out; rw [HSH.out] at this; rw [show (i + 1).toNat = i.toNat + 1 by omega, ← this]; simp⟩, ⟨by omega⟩⟩
          case measure =>
            simp [intOf]
            omega
        · have h1' : (tk.f0 == 1) = false := by rw [beq_eq_false_iff_ne]; exact h1
          have hsh : showT k tk = [] := by
            unfold showT
            rw [if_neg h0, if_neg h1]
          have HSH := Aside0.mk hsh
          clear h0 h1 hsh
          go_wp2
          go_roundw
          case rel => exact ⟨i + 1, tk.f0, acc ++ [], rfl, rfl, ⟨by rw [List.append_nil]; exact hI.out.alloc _⟩, ⟨hbw.out.alloc hbw.out.size _⟩, ⟨by have := HAC.out; rw [HSH.out] at this; rw [show (i + 1).toNat = i.toNat + 1 by omega, ← this]; simp⟩, ⟨by omega⟩⟩
          case measure =>
            simp [intOf]
            omega
    · have hfin : acc = showGo 2 l := by
        have := hacc.out
        rw [List.drop_of_length_le (by have := hi.out; omega), showGo, List.append_nil] at this
        exact this
      go_wp2_with (go_at_call 22; refine (Tryd.Builder_String_any_k w.heap.size w.heap.size acc _ hI.out hbw.out.size).mono ?_; rintro e w2 ⟨rfl, _, b1, _⟩)
      go_ret
      exact ⟨by rw [← hfin]; rfl, hbw.out.trans b1⟩
def lex_Show.f (l0 : List (S32)) : Option (ByteArray) := if (showGo 2 l0).length ≤ 140737488355328 then some ⟨(showGo 2 l0).toArray⟩ else none
theorem lex_Show.calls (A0 : Option Addr) (c0 : Nat) (l0 : List (S32)) (r : ByteArray) (w : World) (hr0 : Kd.C k32 w A0 l0.length l0) (hc0 : l0.length ≤ c0) (h : lex_Show.f l0 = some r) :
    Calls Tryd.prog 14 #[.slice A0 l0.length c0] w fun e w' => e = .returned (.string r) ∧ Below w.heap.size w w' := by
  unfold lex_Show.f at h
  by_cases hb : (showGo 2 l0).length ≤ 140737488355328
  · rw [if_pos hb] at h
    rw [← Option.some.inj h]
    exact show_calls A0 c0 l0 w hr0 hc0 hb
  · rw [if_neg hb] at h
    cases h

/-! ### ridgewaylaw11_awake: function 9 -/
def ridgewaylaw11_awake.f  : Option (Bool) := (lex_All.f (⟨#[97, 115, 32, 55, 32, 35, 32, 195, 169, 10]⟩ : ByteArray)).bind fun bt105 => (if bt105.2.2 = 0 then (if bt105.2.1 = 9 then (if (bt105.1.length : Int) = 4 then (if 0 < (bt105.1.length : Int) then (if ((rd_T32 bt105.1 0).f2).toList = ([97, 115] : List UInt8) then (if 1 < (bt105.1.length : Int) then (if ((rd_T32 bt105.1 1).f1) = 3 then (if 2 < (bt105.1.length : Int) then (if ((rd_T32 bt105.1 2).f0) = 1 then (if ((rd_T32 bt105.1 2).f1) = 8 then (if 3 < (bt105.1.length : Int) then (if ((rd_T32 bt105.1 3).f0) = 2 then (if ((rd_T32 bt105.1 3).f1) = 9 then ((lex_Show.f bt105.1).bind fun t116 => (some (t116.toList == ([97, 115, 32, 55, 10] : List UInt8)))) else (none)) else (none)) else (none)) else (none)) else (none)) else (none)) else (none)) else (none)) else (none)) else (none)) else (none)) else (none)) else (none))
set_option maxHeartbeats 8000000 in
set_option maxRecDepth 100000 in
theorem ridgewaylaw11_awake.calls  (r : Bool) (w : World) (hT : Tabs w) (h : ridgewaylaw11_awake.f  = some r) :
    Calls Tryd.prog 9 #[] w fun e w' => e = .returned (.bool r) ∧ Below w.heap.size w w' := by
  have HT := Aside0.mk hT
  clear hT
  have HB := Aside0.mk (Below.refl w.heap.size w)
  have H : ((lex_All.f (⟨#[97, 115, 32, 55, 32, 35, 32, 195, 169, 10]⟩ : ByteArray)).bind fun bt105 => (if bt105.2.2 = 0 then (if bt105.2.1 = 9 then (if (bt105.1.length : Int) = 4 then (if 0 < (bt105.1.length : Int) then (if ((rd_T32 bt105.1 0).f2).toList = ([97, 115] : List UInt8) then (if 1 < (bt105.1.length : Int) then (if ((rd_T32 bt105.1 1).f1) = 3 then (if 2 < (bt105.1.length : Int) then (if ((rd_T32 bt105.1 2).f0) = 1 then (if ((rd_T32 bt105.1 2).f1) = 8 then (if 3 < (bt105.1.length : Int) then (if ((rd_T32 bt105.1 3).f0) = 2 then (if ((rd_T32 bt105.1 3).f1) = 9 then ((lex_Show.f bt105.1).bind fun t116 => (some (t116.toList == ([97, 115, 32, 55, 10] : List UInt8)))) else (none)) else (none)) else (none)) else (none)) else (none)) else (none)) else (none)) else (none)) else (none)) else (none)) else (none)) else (none)) else (none))) = some r := h
  clear h
  replace H := Option.bind_eq_some_iff.mp H
  obtain ⟨⟨t105, t106, t107⟩, A10, H⟩ := H
  replace H : (if t107 = 0 then (if t106 = 9 then (if (t105.length : Int) = 4 then (if 0 < (t105.length : Int) then (if ((rd_T32 t105 0).f2).toList = ([97, 115] : List UInt8) then (if 1 < (t105.length : Int) then (if ((rd_T32 t105 1).f1) = 3 then (if 2 < (t105.length : Int) then (if ((rd_T32 t105 2).f0) = 1 then (if ((rd_T32 t105 2).f1) = 8 then (if 3 < (t105.length : Int) then (if ((rd_T32 t105 3).f0) = 2 then (if ((rd_T32 t105 3).f1) = 9 then ((lex_Show.f t105).bind fun t116 => (some (t116.toList == ([97, 115, 32, 55, 10] : List UInt8)))) else (none)) else (none)) else (none)) else (none)) else (none)) else (none)) else (none)) else (none)) else (none)) else (none)) else (none)) else (none)) else (none)) = some r := H
  have A1 := Aside0.mk A10
  clear A10
  by_cases c2 : t107 = 0
  · rw [if_pos c2] at H
    have c2b0 : (t107 == 0) = true := beq_iff_eq.mpr c2
    have c2b1 : (t107 != 0) = false := bne_eq_false_iff_eq.mpr c2
    clear c2
    by_cases c3 : t106 = 9
    · rw [if_pos c3] at H
      have c3b0 : (t106 == 9) = true := beq_iff_eq.mpr c3
      have c3b1 : (t106 != 9) = false := bne_eq_false_iff_eq.mpr c3
      clear c3
      by_cases c4 : (t105.length : Int) = 4
      · rw [if_pos c4] at H
        have c4b0 : ((t105.length : Int) == 4) = true := beq_iff_eq.mpr c4
        have c4b1 : ((t105.length : Int) != 4) = false := bne_eq_false_iff_eq.mpr c4
        clear c4
        by_cases c5 : 0 < (t105.length : Int)
        · rw [if_pos c5] at H
          have c5b0 : decide (0 < (t105.length : Int)) = true := decide_eq_true c5
          have c5b1 : decide (0 < t105.length) = true := decide_eq_true (by omega)
          clear c5
          by_cases c6 : ((rd_T32 t105 0).f2).toList = ([97, 115] : List UInt8)
          · rw [if_pos c6] at H
            have c6b0 : (((rd_T32 t105 0).f2).toList == ([97, 115] : List UInt8)) = true := beq_iff_eq.mpr c6
            have c6b1 : (((rd_T32 t105 0).f2).toList != ([97, 115] : List UInt8)) = false := bne_eq_false_iff_eq.mpr c6
            clear c6
            by_cases c7 : 1 < (t105.length : Int)
            · rw [if_pos c7] at H
              have c7b0 : decide (1 < (t105.length : Int)) = true := decide_eq_true c7
              have c7b1 : decide (1 < t105.length) = true := decide_eq_true (by omega)
              clear c7
              by_cases c8 : ((rd_T32 t105 1).f1) = 3
              · rw [if_pos c8] at H
                have c8b0 : (((rd_T32 t105 1).f1) == 3) = true := beq_iff_eq.mpr c8
                have c8b1 : (((rd_T32 t105 1).f1) != 3) = false := bne_eq_false_iff_eq.mpr c8
                clear c8
                by_cases c9 : 2 < (t105.length : Int)
                · rw [if_pos c9] at H
                  have c9b0 : decide (2 < (t105.length : Int)) = true := decide_eq_true c9
                  have c9b1 : decide (2 < t105.length) = true := decide_eq_true (by omega)
                  clear c9
                  by_cases c10 : ((rd_T32 t105 2).f0) = 1
                  · rw [if_pos c10] at H
                    have c10b0 : (((rd_T32 t105 2).f0) == 1) = true := beq_iff_eq.mpr c10
                    have c10b1 : (((rd_T32 t105 2).f0) != 1) = false := bne_eq_false_iff_eq.mpr c10
                    clear c10
                    by_cases c11 : ((rd_T32 t105 2).f1) = 8
                    · rw [if_pos c11] at H
                      have c11b0 : (((rd_T32 t105 2).f1) == 8) = true := beq_iff_eq.mpr c11
                      have c11b1 : (((rd_T32 t105 2).f1) != 8) = false := bne_eq_false_iff_eq.mpr c11
                      clear c11
                      by_cases c12 : 3 < (t105.length : Int)
                      · rw [if_pos c12] at H
                        have c12b0 : decide (3 < (t105.length : Int)) = true := decide_eq_true c12
                        have c12b1 : decide (3 < t105.length) = true := decide_eq_true (by omega)
                        clear c12
                        by_cases c13 : ((rd_T32 t105 3).f0) = 2
                        · rw [if_pos c13] at H
                          have c13b0 : (((rd_T32 t105 3).f0) == 2) = true := beq_iff_eq.mpr c13
                          have c13b1 : (((rd_T32 t105 3).f0) != 2) = false := bne_eq_false_iff_eq.mpr c13
                          clear c13
                          by_cases c14 : ((rd_T32 t105 3).f1) = 9
                          · rw [if_pos c14] at H
                            have c14b0 : (((rd_T32 t105 3).f1) == 9) = true := beq_iff_eq.mpr c14
                            have c14b1 : (((rd_T32 t105 3).f1) != 9) = false := bne_eq_false_iff_eq.mpr c14
                            clear c14
                            replace H := Option.bind_eq_some_iff.mp H
                            obtain ⟨t116, A150, H⟩ := H
                            replace H : (some (t116.toList == ([97, 115, 32, 55, 10] : List UInt8))) = some r := H
                            have A15 := Aside0.mk A150
                            clear A150
                            obtain rfl := Option.some.inj H
                            go_enter Tryd.func9, Tryd.ntmps9
                            go_wp2_with (first | ((with_reducible refine gate_callee (f := 11) rfl ?_); refine goesL_ (some 5) rfl rfl Tryd.func11 (by kernel_rfl) rfl #[.string (⟨#[97, 115, 32, 55, 32, 35, 32, 195, 169, 10]⟩ : ByteArray)] rfl (by (try simp only [List.map_toArray, List.map_cons, List.map_nil]); first | done | rfl | (simp only [List.length_drop, List.length_take]; rfl)) ?_; (with_reducible refine (lex_All.calls (⟨#[97, 115, 32, 55, 32, 35, 32, 195, 169, 10]⟩ : ByteArray) t105 t106 t107 _ ?side1 A1.out).mono ?_); (case side1 => exact Tabs.below HT.out (by repeat (first | (with_reducible first | exact HB.out | apply below_alloc | apply pw_below_drewN | apply below_drew1) | exact HB.out))); rintro e w16 ⟨v108, rfl, ho0, hb⟩; refine ⟨_, rfl, ?_⟩; have n0_ := Aside0.mk (Kd.R_lower ho0 (below_size (by repeat (first | (with_reducible first | exact HB.out | apply below_alloc | apply pw_below_drewN | apply below_drew1) | exact HB.out)))); have n1_ := Aside0.mk (below_step (by repeat (first | (with_reducible first | exact HB.out | apply below_alloc | apply pw_below_drewN | apply below_drew1) | exact HB.out)) hb); clear HB; have HO109 := n0_; have HB := n1_; clear n0_ n1_; (try clear hb); (try clear hb2); (try clear hk); (try clear hi); (try clear ho0); obtain ⟨Ao17, co17, eo17⟩ := Kd.R_slice HO109.out; subst eo17; have p110 : 0 ≤ (0 : Int) := (by omega); have q110 : 0 < (t105.length : Int) := of_decide_eq_true (by first | (with_reducible assumption) | assumption); obtain ⟨ad110, e110, hx110_0, hx110_1, hx110_2⟩ := at_T32 (Kd.R_reads' HO109.out).2.2 0 p110 q110; cases e110; have qi110 : (0 < t105.length) = True := eq_true (by omega); (try rw [show ((0 : Int)).toNat = 0 from rfl] at hx110_0); (try rw [show 0 * 3 = 0 from rfl] at hx110_0); (try rw [Addr.add_zero'] at hx110_0); (try rw [show ((0 : Int)).toNat = 0 from rfl] at hx110_1); (try rw [show 0 * 3 = 0 from rfl] at hx110_1); (try rw [Addr.add_zero'] at hx110_1); (try rw [show ((0 : Int)).toNat = 0 from rfl] at hx110_2); (try rw [show 0 * 3 = 0 from rfl] at hx110_2); (try rw [Addr.add_zero'] at hx110_2); replace p110 := eq_true p110; replace q110 := eq_true q110; have p111 : 0 ≤ (1 : Int) := (by omega); have q111 : 1 < (t105.length : Int) := of_decide_eq_true (by first | (with_reducible assumption) | assumption); obtain ⟨ad111, e111, hx111_0, hx111_1, hx111_2⟩ := at_T32 (Kd.R_reads' HO109.out).2.2 1 p111 q111; obtain rfl : ad110 = ad111 := (by injection e111); (try simp only [show (1 : Int).toNat = 1 from rfl, Nat.reduceMul, Nat.reduceEqDiff, Go.Addr.add, ↓reduceIte] at hx111_0); (try simp only [show (1 : Int).toNat = 1 from rfl, Nat.reduceMul, Nat.reduceEqDiff, Go.Addr.add, ↓reduceIte] at hx111_1); (try simp only [show (1 : Int).toNat = 1 from rfl, Nat.reduceMul, Nat.reduceEqDiff, Go.Addr.add, ↓reduceIte] at hx111_2); have qi111 : (1 < t105.length) = True := eq_true (by omega); (try rw [show ((1 : Int)).toNat = 1 from rfl] at hx111_0); (try rw [show 1 * 3 = 3 from rfl] at hx111_0); (try rw [show ((1 : Int)).toNat = 1 from rfl] at hx111_1); (try rw [show 1 * 3 = 3 from rfl] at hx111_1); (try rw [show ((1 : Int)).toNat = 1 from rfl] at hx111_2); (try rw [show 1 * 3 = 3 from rfl] at hx111_2); replace p111 := eq_true p111; replace q111 := eq_true q111; have p112 : 0 ≤ (2 : Int) := (by omega); have q112 : 2 < (t105.length : Int) := of_decide_eq_true (by first | (with_reducible assumption) | assumption); obtain ⟨ad112, e112, hx112_0, hx112_1, hx112_2⟩ := at_T32 (Kd.R_reads' HO109.out).2.2 2 p112 q112; obtain rfl : ad110 = ad112 := (by injection e112); (try simp only [show (2 : Int).toNat = 2 from rfl, Nat.reduceMul, Nat.reduceEqDiff, Go.Addr.add, ↓reduceIte] at hx112_0); (try simp only [show (2 : Int).toNat = 2 from rfl, Nat.reduceMul, Nat.reduceEqDiff, Go.Addr.add, ↓reduceIte] at hx112_1); (try simp only [show (2 : Int).toNat = 2 from rfl, Nat.reduceMul, Nat.reduceEqDiff, Go.Addr.add, ↓reduceIte] at hx112_2); have qi112 : (2 < t105.length) = True := eq_true (by omega); (try rw [show ((2 : Int)).toNat = 2 from rfl] at hx112_0); (try rw [show 2 * 3 = 6 from rfl] at hx112_0); (try rw [show ((2 : Int)).toNat = 2 from rfl] at hx112_1); (try rw [show 2 * 3 = 6 from rfl] at hx112_1); (try rw [show ((2 : Int)).toNat = 2 from rfl] at hx112_2); (try rw [show 2 * 3 = 6 from rfl] at hx112_2); replace p112 := eq_true p112; replace q112 := eq_true q112; have p113 : 0 ≤ (2 : Int) := (by omega); have q113 : 2 < (t105.length : Int) := of_decide_eq_true (by first | (with_reducible assumption) | assumption); obtain ⟨ad113, e113, hx113_0, hx113_1, hx113_2⟩ := at_T32 (Kd.R_reads' HO109.out).2.2 2 p113 q113; obtain rfl : ad110 = ad113 := (by injection e113); (try simp only [show (2 : Int).toNat = 2 from rfl, Nat.reduceMul, Nat.reduceEqDiff, Go.Addr.add, ↓reduceIte] at hx113_0); (try simp only [show (2 : Int).toNat = 2 from rfl, Nat.reduceMul, Nat.reduceEqDiff, Go.Addr.add, ↓reduceIte] at hx113_1); (try simp only [show (2 : Int).toNat = 2 from rfl, Nat.reduceMul, Nat.reduceEqDiff, Go.Addr.add, ↓reduceIte] at hx113_2); have qi113 : (2 < t105.length) = True := eq_true (by omega); (try rw [show ((2 : Int)).toNat = 2 from rfl] at hx113_0); (try rw [show 2 * 3 = 6 from rfl] at hx113_0); (try rw [show ((2 : Int)).toNat = 2 from rfl] at hx113_1); (try rw [show 2 * 3 = 6 from rfl] at hx113_1); (try rw [show ((2 : Int)).toNat = 2 from rfl] at hx113_2); (try rw [show 2 * 3 = 6 from rfl] at hx113_2); replace p113 := eq_true p113; replace q113 := eq_true q113; have p114 : 0 ≤ (3 : Int) := (by omega); have q114 : 3 < (t105.length : Int) := of_decide_eq_true (by first | (with_reducible assumption) | assumption); obtain ⟨ad114, e114, hx114_0, hx114_1, hx114_2⟩ := at_T32 (Kd.R_reads' HO109.out).2.2 3 p114 q114; obtain rfl : ad110 = ad114 := (by injection e114); (try simp only [show (3 : Int).toNat = 3 from rfl, Nat.reduceMul, Nat.reduceEqDiff, Go.Addr.add, ↓reduceIte] at hx114_0); (try simp only [show (3 : Int).toNat = 3 from rfl, Nat.reduceMul, Nat.reduceEqDiff, Go.Addr.add, ↓reduceIte] at hx114_1); (try simp only [show (3 : Int).toNat = 3 from rfl, Nat.reduceMul, Nat.reduceEqDiff, Go.Addr.add, ↓reduceIte] at hx114_2); have qi114 : (3 < t105.length) = True := eq_true (by omega); (try rw [show ((3 : Int)).toNat = 3 from rfl] at hx114_0); (try rw [show 3 * 3 = 9 from rfl] at hx114_0); (try rw [show ((3 : Int)).toNat = 3 from rfl] at hx114_1); (try rw [show 3 * 3 = 9 from rfl] at hx114_1); (try rw [show ((3 : Int)).toNat = 3 from rfl] at hx114_2); (try rw [show 3 * 3 = 9 from rfl] at hx114_2); replace p114 := eq_true p114; replace q114 := eq_true q114; have p115 : 0 ≤ (3 : Int) := (by omega); have q115 : 3 < (t105.length : Int) := of_decide_eq_true (by first | (with_reducible assumption) | assumption); obtain ⟨ad115, e115, hx115_0, hx115_1, hx115_2⟩ := at_T32 (Kd.R_reads' HO109.out).2.2 3 p115 q115; obtain rfl : ad110 = ad115 := (by injection e115); (try simp only [show (3 : Int).toNat = 3 from rfl, Nat.reduceMul, Nat.reduceEqDiff, Go.Addr.add, ↓reduceIte] at hx115_0); (try simp only [show (3 : Int).toNat = 3 from rfl, Nat.reduceMul, Nat.reduceEqDiff, Go.Addr.add, ↓reduceIte] at hx115_1); (try simp only [show (3 : Int).toNat = 3 from rfl, Nat.reduceMul, Nat.reduceEqDiff, Go.Addr.add, ↓reduceIte] at hx115_2); have qi115 : (3 < t105.length) = True := eq_true (by omega); (try rw [show ((3 : Int)).toNat = 3 from rfl] at hx115_0); (try rw [show 3 * 3 = 9 from rfl] at hx115_0); (try rw [show ((3 : Int)).toNat = 3 from rfl] at hx115_1); (try rw [show 3 * 3 = 9 from rfl] at hx115_1); (try rw [show ((3 : Int)).toNat = 3 from rfl] at hx115_2); (try rw [show 3 * 3 = 9 from rfl] at hx115_2); replace p115 := eq_true p115; replace q115 := eq_true q115) | (go_at_call 14; (with_reducible refine (lex_Show.calls _ _ t105 t116 _ ?side1 ?side2 A15.out).mono ?_); (case side1 => repeat (first | exact (Kd.R_reads' HO109.out).2.2 | (with_reducible refine Kd.C_alloc ?_ _) | (with_reducible refine Kd.C_drewN ?_ _) | (with_reducible refine Kd.C_drew ?_))); (case side2 => exact (Kd.R_reads' HO109.out).2.1); rintro e w18 ⟨rfl, hb⟩; have n0_ := Aside0.mk (Kd.R_below (by (with_reducible repeat (first | apply Kd.R_alloc | apply Kd.R_drewN | apply Kd.R_drew)); exact HO109.out) hb); have n1_ := Aside0.mk (below_step (by repeat (first | (with_reducible first | exact HB.out | apply below_alloc | apply pw_below_drewN | apply below_drew1) | exact HB.out)) hb); clear HO109; clear HB; have HO109 := n0_; have HB := n1_; clear n0_ n1_; (try clear hb); (try clear hb2); (try clear hk); (try clear hi)))
                            go_ret
                            exact ⟨by first | rfl | (simp [errW_none, errW_some] <;> rfl) | (simp [*, errW_none, errW_some] <;> rfl), by repeat (first | (with_reducible first | exact HB.out | apply below_alloc | apply pw_below_drewN | apply below_drew1) | exact HB.out)⟩
                          · rw [if_neg c14] at H
                            exact absurd H (by simp)
                        · rw [if_neg c13] at H
                          exact absurd H (by simp)
                      · rw [if_neg c12] at H
                        exact absurd H (by simp)
                    · rw [if_neg c11] at H
                      exact absurd H (by simp)
                  · rw [if_neg c10] at H
                    exact absurd H (by simp)
                · rw [if_neg c9] at H
                  exact absurd H (by simp)
              · rw [if_neg c8] at H
                exact absurd H (by simp)
            · rw [if_neg c7] at H
              exact absurd H (by simp)
          · rw [if_neg c6] at H
            exact absurd H (by simp)
        · rw [if_neg c5] at H
          exact absurd H (by simp)
      · rw [if_neg c4] at H
        exact absurd H (by simp)
    · rw [if_neg c3] at H
      exact absurd H (by simp)
  · rw [if_neg c2] at H
    exact absurd H (by simp)

/-! ### ridgewayref11_whole: function 25 (ours) -/

/-- The law's look at a text: how many characters; -1: it is none of those that the law speaks of. -/
def rangeC (s : ByteArray) : Nat → Nat → Int → Int
  | 0, _, c => c
  | k + 1, pos, c => if pos < s.size then (if (Utf8.decode s pos).1 = 10 ∨ (Utf8.decode s pos).1 = 65533 ∧ (s.size < pos + 3 ∨ (s.extract pos (pos + 3)).toList ≠ [239, 191, 189]) then -1 else rangeC s k (pos + (Utf8.decode s pos).2) (c + 1)) else c
def ridgewayref11_whole.f (a0 : ByteArray) : Option Int := if a0.size ≤ 1000 then some (rangeC a0 a0.size 0 0) else none

/-! ### ridgewaylaw11_LexComments: function 6 -/
mutual
def ridgewaylaw11_LexComments.j0 : Nat → ByteArray → ByteArray → Bool → Bool → Option (Bool)
  | 0, _, _, _, _ => none
  | k + 1, x0, x1, x5, x24 => if x24 = true then (some x5) else ((ridgewayref11_whole.f x1).bind fun t118 => (if t118 < 0 then (some x5) else ((lex_All.f x0).bind fun bt119 => (if x0.size + 1 ≤ 9223372036854775807 then (if x0.size + 1 + x1.size ≤ 9223372036854775807 then ((lex_All.f ((x0 ++ (⟨#[35]⟩ : ByteArray)) ++ x1)).bind fun bt124 => (if bt119.2.2 = 0 then (if bt124.2.2 = 0 then (if (bt119.1.length : Int) = (bt124.1.length : Int) then (ridgewaylaw11_LexComments.j1 k x5 bt119.1 bt124.1 (bt124.2.1 != (wrap64 ((wrap64 (bt119.2.1 + 1)) + t118)))) else (ridgewaylaw11_LexComments.j1 k x5 bt119.1 bt124.1 true)) else (ridgewaylaw11_LexComments.j1 k x5 bt119.1 bt124.1 true)) else (if x5 = true then (if bt124.2.2 = bt119.2.2 then (some (bt119.2.1 == bt124.2.1)) else (none)) else (none)))) else (none)) else (none)))))
def ridgewaylaw11_LexComments.j1 : Nat → Bool → List (S32) → List (S32) → Bool → Option (Bool)
  | 0, _, _, _, _ => none
  | k + 1, x5, x9, x12, x100 => if x100 = true then (none) else (ridgewaylaw11_LexComments.l0 k x5 x9 x12 0)
def ridgewaylaw11_LexComments.l0 : Nat → Bool → List (S32) → List (S32) → Int → Option (Bool)
  | 0, _, _, _, _ => none
  | k + 1, x5, x9, x12, x15 => if x15 < (wrap64 ((x9.length : Int) - 1)) then (if 0 ≤ x15 then (if x15 < (x9.length : Int) then (if x15 < (x12.length : Int) then (if (!(((rd_T32 x9 x15).f0) == ((rd_T32 x12 x15).f0)) || (!(((rd_T32 x9 x15).f1) == ((rd_T32 x12 x15).f1)) || (!((((rd_T32 x9 x15).f2).toList) == (((rd_T32 x12 x15).f2).toList))))) = true then (none) else (ridgewaylaw11_LexComments.l0 k x5 x9 x12 (wrap64 (x15 + 1)))) else (none)) else (none)) else (none)) else (if x5 = true then (if 0 ≤ (wrap64 ((x12.length : Int) - 1)) then (if (wrap64 ((x12.length : Int) - 1)) < (x12.length : Int) then (some (((rd_T32 x12 (wrap64 ((x12.length : Int) - 1))).f0) == 2)) else (none)) else (none)) else (none))
end
def ridgewaylaw11_LexComments.f (k : Nat) (a0 : ByteArray) (a1 : ByteArray) : Option (Bool) := (ridgewaylaw11_awake.f).bind fun t117 => (if (a0.size : Int) > 1000 then (ridgewaylaw11_LexComments.j0 k a0 a1 t117 true) else (ridgewaylaw11_LexComments.j0 k a0 a1 t117 (decide ((a1.size : Int) > 1000))))
theorem ridgewaylaw11_LexComments.mono_l : ∀ k, (∀ y0 y1 y2 y3, LeO (ridgewaylaw11_LexComments.j0 k y0 y1 y2 y3) (ridgewaylaw11_LexComments.j0 (k + 1) y0 y1 y2 y3)) ∧ (∀ y0 y1 y2 y3, LeO (ridgewaylaw11_LexComments.j1 k y0 y1 y2 y3) (ridgewaylaw11_LexComments.j1 (k + 1) y0 y1 y2 y3)) ∧ (∀ y0 y1 y2 y3, LeO (ridgewaylaw11_LexComments.l0 k y0 y1 y2 y3) (ridgewaylaw11_LexComments.l0 (k + 1) y0 y1 y2 y3))
  | 0 => ⟨fun _ _ _ _ r h => by simp [ridgewaylaw11_LexComments.j0] at h, fun _ _ _ _ r h => by simp [ridgewaylaw11_LexComments.j1] at h, fun _ _ _ _ r h => by simp [ridgewaylaw11_LexComments.l0] at h⟩
  | k + 1 => by
    obtain ⟨ih0, ih1, ih2⟩ := ridgewaylaw11_LexComments.mono_l k
    refine ⟨?_, ?_, ?_⟩
    · intro y0 y1 y2 y3
      unfold ridgewaylaw11_LexComments.j0
      repeat' first
      | (with_reducible exact ih0 _ _ _ _)
      | (with_reducible exact ih1 _ _ _ _)
      | (with_reducible exact ih2 _ _ _ _)
      | (with_reducible exact LeO.refl _)
      | (with_reducible exact LeO.none _)
      | (with_reducible refine LeO.ite ?_ ?_)
      | (with_reducible refine LeO.bind ?_ (fun _ => ?_))
      | exact ih0 _ _ _ _
      | exact ih1 _ _ _ _
      | exact ih2 _ _ _ _
      | exact LeO.none _
      | refine LeO.ite ?_ ?_
      | refine LeO.bind ?_ (fun _ => ?_)
    · intro y0 y1 y2 y3
      unfold ridgewaylaw11_LexComments.j1
      repeat' first
      | (with_reducible exact ih0 _ _ _ _)
      | (with_reducible exact ih1 _ _ _ _)
      | (with_reducible exact ih2 _ _ _ _)
      | (with_reducible exact LeO.refl _)
      | (with_reducible exact LeO.none _)
      | (with_reducible refine LeO.ite ?_ ?_)
      | (with_reducible refine LeO.bind ?_ (fun _ => ?_))
      | exact ih0 _ _ _ _
      | exact ih1 _ _ _ _
      | exact ih2 _ _ _ _
      | exact LeO.none _
      | refine LeO.ite ?_ ?_
      | refine LeO.bind ?_ (fun _ => ?_)
    · intro y0 y1 y2 y3
      unfold ridgewaylaw11_LexComments.l0
      repeat' first
      | (with_reducible exact ih0 _ _ _ _)
      | (with_reducible exact ih1 _ _ _ _)
      | (with_reducible exact ih2 _ _ _ _)
      | (with_reducible exact LeO.refl _)
      | (with_reducible exact LeO.none _)
      | (with_reducible refine LeO.ite ?_ ?_)
      | (with_reducible refine LeO.bind ?_ (fun _ => ?_))
      | exact ih0 _ _ _ _
      | exact ih1 _ _ _ _
      | exact ih2 _ _ _ _
      | exact LeO.none _
      | refine LeO.ite ?_ ?_
      | refine LeO.bind ?_ (fun _ => ?_)
theorem ridgewaylaw11_LexComments.mono : ∀ a0 a1 k, LeO (ridgewaylaw11_LexComments.f k a0 a1) (ridgewaylaw11_LexComments.f (k + 1) a0 a1) := by
  intro a0 a1 k
  obtain ⟨ih0, ih1, ih2⟩ := ridgewaylaw11_LexComments.mono_l k
  unfold ridgewaylaw11_LexComments.f
  repeat' first
      | (with_reducible exact ih0 _ _ _ _)
      | (with_reducible exact ih1 _ _ _ _)
      | (with_reducible exact ih2 _ _ _ _)
      | (with_reducible exact LeO.refl _)
      | (with_reducible exact LeO.none _)
      | (with_reducible refine LeO.ite ?_ ?_)
      | (with_reducible refine LeO.bind ?_ (fun _ => ?_))
      | exact ih0 _ _ _ _
      | exact ih1 _ _ _ _
      | exact ih2 _ _ _ _
      | exact LeO.none _
      | refine LeO.ite ?_ ?_
      | refine LeO.bind ?_ (fun _ => ?_)
theorem dec_posC (s : ByteArray) (pos : Nat) : 1 ≤ (Utf8.decode s pos).2 := by
  rw [Pure.dec_list]
  exact Pure.dec_width _
theorem dec_roomC (s : ByteArray) (pos : Nat) (h : pos < s.size) : pos + (Utf8.decode s pos).2 ≤ s.size := by
  have hl : s.data.toList.length = s.size := by rw [Array.length_toList]; rfl
  have hne : s.data.toList.drop pos ≠ [] := by
    intro h0
    have := congrArg List.length h0
    rw [List.length_drop, List.length_nil] at this
    omega
  have := Pure.dec_room _ hne
  rw [List.length_drop] at this
  rw [Pure.dec_list]
  omega
set_option maxHeartbeats 8000000 in
set_option maxRecDepth 100000 in
theorem ridgewaylaw11_LexComments.calls (k : Nat) (a0 : ByteArray) (a1 : ByteArray) (r : Bool) (w : World) (hT : Tabs w) (h : ridgewaylaw11_LexComments.f k a0 a1 = some r) :
    Calls Tryd.prog 6 #[.string a0, .string a1] w fun e w' => e = .returned (.bool r) ∧ Below w.heap.size w w' := by
  have hu32 := Tryd.underlying32
  have HT := Aside0.mk hT
  clear hT
  have HB := Aside0.mk (Below.refl w.heap.size w)
  have H : ((ridgewaylaw11_awake.f).bind fun t117 => (if (a0.size : Int) > 1000 then (ridgewaylaw11_LexComments.j0 k a0 a1 t117 true) else (ridgewaylaw11_LexComments.j0 k a0 a1 t117 (decide ((a1.size : Int) > 1000))))) = some r := h
  clear h
  replace H := Option.bind_eq_some_iff.mp H
  obtain ⟨t117, A30, H⟩ := H
  replace H : (if (a0.size : Int) > 1000 then (ridgewaylaw11_LexComments.j0 k a0 a1 t117 true) else (ridgewaylaw11_LexComments.j0 k a0 a1 t117 (decide ((a1.size : Int) > 1000)))) = some r := H
  have A3 := Aside0.mk A30
  clear A30
  have HC4 := Aside0.mk H
  clear H
  go_enter Tryd.func6, Tryd.ntmps6
  go_upto_region 2 with (first | (go_at_call 9; (with_reducible refine (ridgewaylaw11_awake.calls  t117 _ ?side1 A3.out).mono ?_); (case side1 => exact Tabs.below HT.out (by repeat (first | (with_reducible first | exact HB.out | apply below_alloc | apply pw_below_drewN | apply below_drew1) | exact HB.out))); rintro e w5 ⟨rfl, hb⟩; have n0_ := Aside0.mk (below_step (by repeat (first | (with_reducible first | exact HB.out | apply below_alloc | apply pw_below_drewN | apply below_drew1) | exact HB.out)) hb); clear HB; have HB := n0_; clear n0_; (try clear hb); (try clear hb2); (try clear hk); (try clear hi)))
  repeat (go_quiet (first | (go_at_call 9; (with_reducible refine (ridgewaylaw11_awake.calls  t117 _ ?side1 A3.out).mono ?_); (case side1 => exact Tabs.below HT.out (by repeat (first | (with_reducible first | exact HB.out | apply below_alloc | apply pw_below_drewN | apply below_drew1) | exact HB.out))); rintro e w5 ⟨rfl, hb⟩; have n0_ := Aside0.mk (below_step (by repeat (first | (with_reducible first | exact HB.out | apply below_alloc | apply pw_below_drewN | apply below_drew1) | exact HB.out)) hb); clear HB; have HB := n0_; clear n0_; (try clear hb); (try clear hb2); (try clear hk); (try clear hi))); go_upto_region 2 with (first | (go_at_call 9; (with_reducible refine (ridgewaylaw11_awake.calls  t117 _ ?side1 A3.out).mono ?_); (case side1 => exact Tabs.below HT.out (by repeat (first | (with_reducible first | exact HB.out | apply below_alloc | apply pw_below_drewN | apply below_drew1) | exact HB.out))); rintro e w5 ⟨rfl, hb⟩; have n0_ := Aside0.mk (below_step (by repeat (first | (with_reducible first | exact HB.out | apply below_alloc | apply pw_below_drewN | apply below_drew1) | exact HB.out)) hb); clear HB; have HB := n0_; clear n0_; (try clear hb); (try clear hb2); (try clear hk); (try clear hi))))
  (try simp only [Act.put, List.setIfInBounds_toArray, List.set_cons_zero, List.set_cons_succ])
  go_cut [24] (fun v24 wc => ∃ (kq : Nat) (x24_3 : Bool), v24 = .bool x24_3 ∧ Aside0 (ridgewaylaw11_LexComments.j0 kq a0 a1 t117 x24_3 = some r) ∧ Aside0 (kq ≤ k) ∧ Aside0 (Below w.heap.size w wc))
  case first =>
    have H := HC4.out
    clear HC4
    by_cases c6 : (a0.size : Int) > 1000
    · rw [if_pos c6] at H
      have c6b0 : decide (1000 < (a0.size : Int)) = true := decide_eq_true c6
      have c6b1 : decide (1000 < a0.size) = true := decide_eq_true (by omega)
      clear c6
      (first | (rw [c6b0]; skip) | (have cw_ := c6b0; simp only [gt_iff_lt, ge_iff_le, Int.natCast_pos] at cw_; rw [cw_]; clear cw_; skip) | skip)
      have H' := Aside0.mk H
      clear H
      go_wp2
      repeat (go_quiet (fail); try go_wp2)
      go_meet
      case rel => exact ⟨_, (true), (by first | rfl | (simp; done) | (simp [*]; done)), H', ⟨by first | omega | exact Nat.le_refl _⟩, ⟨by repeat (first | (with_reducible first | exact HB.out | apply below_alloc | apply pw_below_drewN | apply below_drew1) | exact HB.out)⟩⟩
    · rw [if_neg c6] at H
      have c6b0 : decide (1000 < (a0.size : Int)) = false := decide_eq_false c6
      have c6b1 : decide (1000 < a0.size) = false := decide_eq_false (by omega)
      clear c6
      (first | (rw [c6b0]; skip) | (have cw_ := c6b0; simp only [gt_iff_lt, ge_iff_le, Int.natCast_pos] at cw_; rw [cw_]; clear cw_; skip) | skip)
      have H' := Aside0.mk H
      clear H
      go_wp2
      repeat (go_quiet (fail); try go_wp2)
      go_meet
      case rel => exact ⟨_, (decide ((a1.size : Int) > 1000)), (by first | rfl | (simp; done) | (simp [*]; done)), H', ⟨by first | omega | exact Nat.le_refl _⟩, ⟨by repeat (first | (with_reducible first | exact HB.out | apply below_alloc | apply pw_below_drewN | apply below_drew1) | exact HB.out)⟩⟩
  case rest =>
    clear HC4
    try clear p2
    try clear c6
    try clear c6b0
    try clear c6b1
    obtain ⟨kq, x24_3, rfl, HA, HJ3, HB⟩ := hcut
    cases kq with
    | zero => exact absurd HA.out (by simp [ridgewaylaw11_LexComments.j0])
    | succ kj3 =>
      have H := HA.out
      clear HA
      simp only [ridgewaylaw11_LexComments.j0] at H
      by_cases c7 : x24_3 = true
      · subst c7
        have H1 : (some t117) = some r := by rw [if_pos rfl] at H; exact H
        clear H
        have H := H1
        clear H1
        obtain rfl := Option.some.inj H
        go_wp2
        repeat (go_quiet (fail); try go_wp2)
        go_ret
        exact ⟨by first | rfl | (simp [errW_none, errW_some] <;> rfl) | (simp [*, errW_none, errW_some] <;> rfl), by repeat (first | (with_reducible first | exact HB.out | apply below_alloc | apply pw_below_drewN | apply below_drew1) | exact HB.out)⟩
      · replace c7 := Bool.eq_false_iff.mpr c7
        subst c7
        have H1 : ((ridgewayref11_whole.f a1).bind fun t118 => (if t118 < 0 then (some t117) else ((lex_All.f a0).bind fun bt119 => (if a0.size + 1 ≤ 9223372036854775807 then (if a0.size + 1 + a1.size ≤ 9223372036854775807 then ((lex_All.f ((a0 ++ (⟨#[35]⟩ : ByteArray)) ++ a1)).bind fun bt124 => (if bt119.2.2 = 0 then (if bt124.2.2 = 0 then (if (bt119.1.length : Int) = (bt124.1.length : Int) then (ridgewaylaw11_LexComments.j1 kj3 t117 bt119.1 bt124.1 (bt124.2.1 != (wrap64 ((wrap64 (bt119.2.1 + 1)) + t118)))) else (ridgewaylaw11_LexComments.j1 kj3 t117 bt119.1 bt124.1 true)) else (ridgewaylaw11_LexComments.j1 kj3 t117 bt119.1 bt124.1 true)) else (if t117 = true then (if bt124.2.2 = bt119.2.2 then (some (bt119.2.1 == bt124.2.1)) else (none)) else (none)))) else (none)) else (none))))) = some r := by rw [if_neg (show ¬ (false = true) by decide)] at H; exact H
        clear H
        have H := H1
        clear H1
        replace H := Option.bind_eq_some_iff.mp H
        obtain ⟨t118, A80, H⟩ := H
        replace H : (if t118 < 0 then (some t117) else ((lex_All.f a0).bind fun bt119 => (if a0.size + 1 ≤ 9223372036854775807 then (if a0.size + 1 + a1.size ≤ 9223372036854775807 then ((lex_All.f ((a0 ++ (⟨#[35]⟩ : ByteArray)) ++ a1)).bind fun bt124 => (if bt119.2.2 = 0 then (if bt124.2.2 = 0 then (if (bt119.1.length : Int) = (bt124.1.length : Int) then (ridgewaylaw11_LexComments.j1 kj3 t117 bt119.1 bt124.1 (bt124.2.1 != (wrap64 ((wrap64 (bt119.2.1 + 1)) + t118)))) else (ridgewaylaw11_LexComments.j1 kj3 t117 bt119.1 bt124.1 true)) else (ridgewaylaw11_LexComments.j1 kj3 t117 bt119.1 bt124.1 true)) else (if t117 = true then (if bt124.2.2 = bt119.2.2 then (some (bt119.2.1 == bt124.2.1)) else (none)) else (none)))) else (none)) else (none)))) = some r := H
        have A8 := Aside0.mk A80
        clear A80
        by_cases c9 : t118 < 0
        · rw [if_pos c9] at H
          obtain ⟨hb1, hT8⟩ : a1.size ≤ 1000 ∧ rangeC a1 a1.size 0 0 = t118 := by
            have h8 := A8.out
            unfold ridgewayref11_whole.f at h8
            by_cases hz : a1.size ≤ 1000
            · rw [if_pos hz] at h8
              exact ⟨hz, Option.some.inj h8⟩
            · rw [if_neg hz] at h8
              cases h8
          have HT8 := Aside0.mk hT8
          clear hT8
          go_wp2
          go_loopw [6] (fun v6 wr => ∃ (pos fuel : Nat) (cnt : Int), v6 = .int .i64 cnt ∧ Aside0 (wr.heap[wc.heap.size]? = some (.stringIter a1 pos)) ∧ Aside0 (Below w.heap.size w wr) ∧ Aside0 (rangeC a1 fuel pos cnt = t118) ∧ Aside0 (0 ≤ cnt ∧ cnt ≤ pos) ∧ Aside0 (a1.size ≤ pos + fuel) ∧ Aside0 (pos ≤ a1.size)) (fun _ wr => a1.size - wr.iterPos wc.heap.size)
          case atStart => exact ⟨0, a1.size, 0, rfl, ⟨World.iter_heap wc a1 0⟩, ⟨HB.out.alloc (below_size HB.out) _⟩, ⟨HT8.out⟩, ⟨by omega⟩, ⟨by omega⟩, ⟨Nat.zero_le _⟩⟩
          case round =>
            obtain ⟨pos, fuel, cnt, rfl, hit, hbw, hgo, hcn, hfu, hps⟩ := hrel
            have hge := below_size HB.out
            by_cases hp : pos < a1.size
            · have hnx : ∀ ty, (Instr.next (.pointer (some ⟨wc.heap.size, 0, none⟩)) true ty).run Tryd.prog wr = _ := fun ty => Lib.run_next_any_at wr wc.heap.size a1 pos ty hit.out hp
              have hwd := dec_posC a1 pos
              have hit2 := Aside0.mk (Lib.iterAt_heap wr wc.heap.size a1 pos (pos + (Utf8.decode a1 pos).2) hit.out)
              have hbw2 := Aside0.mk (Lib.below_iterAt hbw.out hge a1 (pos + (Utf8.decode a1 pos).2))
              obtain ⟨f, rfl⟩ : ∃ f, fuel = f + 1 := ⟨fuel - 1, by have := hfu.out; omega⟩
              have hg1 := hgo.out
              rw [rangeC, if_pos hp] at hg1
              have hdm := dec_roomC a1 pos hp
              obtain ⟨q, hq⟩ : ∃ q, q = (Utf8.decode a1 pos).1 := ⟨_, rfl⟩
              obtain ⟨d, hd⟩ : ∃ d, d = (Utf8.decode a1 pos).2 := ⟨_, rfl⟩
              rw [← hq, ← hd] at hg1 hnx
              rw [← hd] at hit2 hbw2 hwd hdm
              clear hq hd hgo
              generalize hwi : wr.iterAt wc.heap.size a1 (pos + d) = w2 at hnx hit2 hbw2
              clear hwi
              have hw3 : IntKind.i64.wrap ((pos : Int) + 3) = (pos : Int) + 3 := by rw [IntKind.wrap_i64]; omega
              have hw1 : IntKind.i64.wrap (cnt + 1) = cnt + 1 := by rw [IntKind.wrap_i64]; have := hcn.out; omega
              have hp0 : (0 : Int) ≤ (pos : Int) := by omega
              have hp1 : (pos : Int) ≤ (pos : Int) + 3 := by omega
              by_cases h10 : q = 10
              · have c10 : ((q : Int) == 10) = true := by rw [beq_iff_eq]; omega
                rw [if_pos (.inl h10)] at hg1
                clear h10
                obtain rfl := Option.some.inj H
                go_wp2
                go_ret
                exact ⟨rfl, hbw2.out⟩
              · have c10 : ((q : Int) == 10) = false := by rw [beq_eq_false_iff_ne]; omega
                by_cases hF : q = 65533
                · have cF : ((q : Int) == 65533) = true := by rw [beq_iff_eq]; omega
                  by_cases h3 : a1.size < pos + 3
                  · have c3 : decide ((a1.size : Int) < (pos : Int) + 3) = true := decide_eq_true (by omega)
                    rw [if_pos (.inr ⟨hF, .inl h3⟩)] at hg1
                    clear h10 hF h3
                    obtain rfl := Option.some.inj H
                    go_wp2
                    go_ret
                    exact ⟨rfl, hbw2.out⟩
                  · have c3 : decide ((a1.size : Int) < (pos : Int) + 3) = false := decide_eq_false (by omega)
                    have hp2 : (pos : Int) + 3 ≤ (a1.size : Int) := by omega
                    have hn3 : ((pos : Int) + 3).toNat = pos + 3 := by omega
                    by_cases he : (a1.extract pos (pos + 3)).toList = [239, 191, 189]
                    · have ce : ((a1.extract pos (pos + 3)).toList == ([239, 191, 189] : List UInt8)) = true := by rw [beq_iff_eq]; exact he
                      rw [if_neg (by rintro (h | ⟨_, h | h⟩); · exact h10 h
                                     · exact h3 h
                                     · exact h he)] at hg1
                      clear h10 hF h3 he
                      go_wp2
                      go_roundw
                      case rel => exact ⟨pos + d, f, cnt + 1, rfl, hit2, hbw2, ⟨hg1⟩, ⟨by have := hcn.out; omega⟩, ⟨by have := hfu.out; omega⟩, ⟨hdm⟩⟩
                      case measure =>
                        simp only [World.iterPos, hit2.out, hit.out]
                        omega
                    · have ce : ((a1.extract pos (pos + 3)).toList == ([239, 191, 189] : List UInt8)) = false := by rw [beq_eq_false_iff_ne]; exact he
                      rw [if_pos (.inr ⟨hF, .inr he⟩)] at hg1
                      clear h10 hF h3 he
                      obtain rfl := Option.some.inj H
                      go_wp2
                      go_ret
                      exact ⟨rfl, hbw2.out⟩
                · have cF : ((q : Int) == 65533) = false := by rw [beq_eq_false_iff_ne]; omega
                  rw [if_neg (by rintro (h | ⟨h, _⟩); · exact h10 h
                                 · exact hF h)] at hg1
                  clear h10 hF
                  go_wp2
                  go_roundw
                  case rel => exact ⟨pos + d, f, cnt + 1, rfl, hit2, hbw2, ⟨hg1⟩, ⟨by have := hcn.out; omega⟩, ⟨by have := hfu.out; omega⟩, ⟨hdm⟩⟩
                  case measure =>
                    simp only [World.iterPos, hit2.out, hit.out]
                    omega
            · have hnx : ∀ ty, (Instr.next (.pointer (some ⟨wc.heap.size, 0, none⟩)) true ty).run Tryd.prog wr = _ := fun ty => Lib.run_next_end_at wr wc.heap.size a1 pos ty hit.out hp
              have hg1 := hgo.out
              have hz : rangeC a1 fuel pos cnt = cnt := by
                cases fuel with
                | zero => rfl
                | succ f => rw [rangeC, if_neg hp]
              rw [hz] at hg1
              have hcn0 := hcn.out.1
              clear hz hgo
              exact absurd c9 (by omega)
        · rw [if_neg c9] at H
          obtain ⟨hb1, hT8⟩ : a1.size ≤ 1000 ∧ rangeC a1 a1.size 0 0 = t118 := by
            have h8 := A8.out
            unfold ridgewayref11_whole.f at h8
            by_cases hz : a1.size ≤ 1000
            · rw [if_pos hz] at h8
              exact ⟨hz, Option.some.inj h8⟩
            · rw [if_neg hz] at h8
              cases h8
          have HT8 := Aside0.mk hT8
          clear hT8
          go_wp2
          go_loopw [6] (fun v6 wr => ∃ (pos fuel : Nat) (cnt : Int), v6 = .int .i64 cnt ∧ Aside0 (wr.heap[wc.heap.size]? = some (.stringIter a1 pos)) ∧ Aside0 (Below w.heap.size w wr) ∧ Aside0 (rangeC a1 fuel pos cnt = t118) ∧ Aside0 (0 ≤ cnt ∧ cnt ≤ pos) ∧ Aside0 (a1.size ≤ pos + fuel) ∧ Aside0 (pos ≤ a1.size)) (fun _ wr => a1.size - wr.iterPos wc.heap.size)
          case atStart => exact ⟨0, a1.size, 0, rfl, ⟨World.iter_heap wc a1 0⟩, ⟨HB.out.alloc (below_size HB.out) _⟩, ⟨HT8.out⟩, ⟨by omega⟩, ⟨by omega⟩, ⟨Nat.zero_le _⟩⟩
          case round =>
            obtain ⟨pos, fuel, cnt, rfl, hit, hbw, hgo, hcn, hfu, hps⟩ := hrel
            have hge := below_size HB.out
            by_cases hp : pos < a1.size
            · have hnx : ∀ ty, (Instr.next (.pointer (some ⟨wc.heap.size, 0, none⟩)) true ty).run Tryd.prog wr = _ := fun ty => Lib.run_next_any_at wr wc.heap.size a1 pos ty hit.out hp
              have hwd := dec_posC a1 pos
              have hit2 := Aside0.mk (Lib.iterAt_heap wr wc.heap.size a1 pos (pos + (Utf8.decode a1 pos).2) hit.out)
              have hbw2 := Aside0.mk (Lib.below_iterAt hbw.out hge a1 (pos + (Utf8.decode a1 pos).2))
              obtain ⟨f, rfl⟩ : ∃ f, fuel = f + 1 := ⟨fuel - 1, by have := hfu.out; omega⟩
              have hg1 := hgo.out
              rw [rangeC, if_pos hp] at hg1
              have hdm := dec_roomC a1 pos hp
              obtain ⟨q, hq⟩ : ∃ q, q = (Utf8.decode a1 pos).1 := ⟨_, rfl⟩
              obtain ⟨d, hd⟩ : ∃ d, d = (Utf8.decode a1 pos).2 := ⟨_, rfl⟩
              rw [← hq, ← hd] at hg1 hnx
              rw [← hd] at hit2 hbw2 hwd hdm
              clear hq hd hgo
              generalize hwi : wr.iterAt wc.heap.size a1 (pos + d) = w2 at hnx hit2 hbw2
              clear hwi
              have hw3 : IntKind.i64.wrap ((pos : Int) + 3) = (pos : Int) + 3 := by rw [IntKind.wrap_i64]; omega
              have hw1 : IntKind.i64.wrap (cnt + 1) = cnt + 1 := by rw [IntKind.wrap_i64]; have := hcn.out; omega
              have hp0 : (0 : Int) ≤ (pos : Int) := by omega
              have hp1 : (pos : Int) ≤ (pos : Int) + 3 := by omega
              by_cases h10 : q = 10
              · have c10 : ((q : Int) == 10) = true := by rw [beq_iff_eq]; omega
                rw [if_pos (.inl h10)] at hg1
                clear h10
                exact absurd (show t118 < 0 by omega) (by omega)
              · have c10 : ((q : Int) == 10) = false := by rw [beq_eq_false_iff_ne]; omega
                by_cases hF : q = 65533
                · have cF : ((q : Int) == 65533) = true := by rw [beq_iff_eq]; omega
                  by_cases h3 : a1.size < pos + 3
                  · have c3 : decide ((a1.size : Int) < (pos : Int) + 3) = true := decide_eq_true (by omega)
                    rw [if_pos (.inr ⟨hF, .inl h3⟩)] at hg1
                    clear h10 hF h3
                    exact absurd (show t118 < 0 by omega) (by omega)
                  · have c3 : decide ((a1.size : Int) < (pos : Int) + 3) = false := decide_eq_false (by omega)
                    have hp2 : (pos : Int) + 3 ≤ (a1.size : Int) := by omega
                    have hn3 : ((pos : Int) + 3).toNat = pos + 3 := by omega
                    by_cases he : (a1.extract pos (pos + 3)).toList = [239, 191, 189]
                    · have ce : ((a1.extract pos (pos + 3)).toList == ([239, 191, 189] : List UInt8)) = true := by rw [beq_iff_eq]; exact he
                      rw [if_neg (by rintro (h | ⟨_, h | h⟩); · exact h10 h
                                     · exact h3 h
                                     · exact h he)] at hg1
                      clear h10 hF h3 he
                      go_wp2
                      go_roundw
                      case rel => exact ⟨pos + d, f, cnt + 1, rfl, hit2, hbw2, ⟨hg1⟩, ⟨by have := hcn.out; omega⟩, ⟨by have := hfu.out; omega⟩, ⟨hdm⟩⟩
                      case measure =>
                        simp only [World.iterPos, hit2.out, hit.out]
                        omega
                    · have ce : ((a1.extract pos (pos + 3)).toList == ([239, 191, 189] : List UInt8)) = false := by rw [beq_eq_false_iff_ne]; exact he
                      rw [if_pos (.inr ⟨hF, .inr he⟩)] at hg1
                      clear h10 hF h3 he
                      exact absurd (show t118 < 0 by omega) (by omega)
                · have cF : ((q : Int) == 65533) = false := by rw [beq_eq_false_iff_ne]; omega
                  rw [if_neg (by rintro (h | ⟨h, _⟩); · exact h10 h
                                 · exact hF h)] at hg1
                  clear h10 hF
                  go_wp2
                  go_roundw
                  case rel => exact ⟨pos + d, f, cnt + 1, rfl, hit2, hbw2, ⟨hg1⟩, ⟨by have := hcn.out; omega⟩, ⟨by have := hfu.out; omega⟩, ⟨hdm⟩⟩
                  case measure =>
                    simp only [World.iterPos, hit2.out, hit.out]
                    omega
            · have hnx : ∀ ty, (Instr.next (.pointer (some ⟨wc.heap.size, 0, none⟩)) true ty).run Tryd.prog wr = _ := fun ty => Lib.run_next_end_at wr wc.heap.size a1 pos ty hit.out hp
              have hg1 := hgo.out
              have hz : rangeC a1 fuel pos cnt = cnt := by
                cases fuel with
                | zero => rfl
                | succ f => rw [rangeC, if_neg hp]
              rw [hz] at hg1
              have hcn0 := hcn.out.1
              clear hz hgo
              obtain rfl : t118 = cnt := hg1.symm
              clear HB
              have HB := hbw
              replace H := Option.bind_eq_some_iff.mp H
              obtain ⟨⟨t119, t120, t121⟩, A110, H⟩ := H
              replace H : (if a0.size + 1 ≤ 9223372036854775807 then (if a0.size + 1 + a1.size ≤ 9223372036854775807 then ((lex_All.f ((a0 ++ (⟨#[35]⟩ : ByteArray)) ++ a1)).bind fun bt124 => (if t121 = 0 then (if bt124.2.2 = 0 then (if (t119.length : Int) = (bt124.1.length : Int) then (ridgewaylaw11_LexComments.j1 kj3 t117 t119 bt124.1 (bt124.2.1 != (wrap64 ((wrap64 (t120 + 1)) + t118)))) else (ridgewaylaw11_LexComments.j1 kj3 t117 t119 bt124.1 true)) else (ridgewaylaw11_LexComments.j1 kj3 t117 t119 bt124.1 true)) else (if t117 = true then (if bt124.2.2 = t121 then (some (t120 == bt124.2.1)) else (none)) else (none)))) else (none)) else (none)) = some r := H
              have A11 := Aside0.mk A110
              clear A110
              by_cases c12 : a0.size + 1 ≤ 9223372036854775807
              · rw [if_pos c12] at H
                have c12b0 := eq_true c12
                have c12b1 : decide (a0.size + 1 ≤ 9223372036854775807) = true := decide_eq_true c12
                try have c12b2 : (9223372036854775807 < a0.size + 1) = False := eq_false (Nat.not_lt.2 c12)
                by_cases c13 : a0.size + 1 + a1.size ≤ 9223372036854775807
                · rw [if_pos c13] at H
                  have c13b0 := eq_true c13
                  have c13b1 : decide (a0.size + 1 + a1.size ≤ 9223372036854775807) = true := decide_eq_true c13
                  try have c13b2 : (9223372036854775807 < a0.size + 1 + a1.size) = False := eq_false (Nat.not_lt.2 c13)
                  replace H := Option.bind_eq_some_iff.mp H
                  obtain ⟨⟨t124, t125, t126⟩, A140, H⟩ := H
                  replace H : (if t121 = 0 then (if t126 = 0 then (if (t119.length : Int) = (t124.length : Int) then (ridgewaylaw11_LexComments.j1 kj3 t117 t119 t124 (t125 != (wrap64 ((wrap64 (t120 + 1)) + t118)))) else (ridgewaylaw11_LexComments.j1 kj3 t117 t119 t124 true)) else (ridgewaylaw11_LexComments.j1 kj3 t117 t119 t124 true)) else (if t117 = true then (if t126 = t121 then (some (t120 == t125)) else (none)) else (none))) = some r := H
                  have A14 := Aside0.mk A140
                  clear A140
                  by_cases c15 : t121 = 0
                  · rw [if_pos c15] at H
                    have c15b0 : (t121 == 0) = true := beq_iff_eq.mpr c15
                    have c15b1 : (t121 != 0) = false := bne_eq_false_iff_eq.mpr c15
                    clear c15
                    have HC16 := Aside0.mk H
                    clear H
                    go_upto_region 15 with (first | (go_at_call 11; (with_reducible refine (lex_All.calls a0 t119 t120 t121 _ ?side1 A11.out).mono ?_); (case side1 => exact Tabs.below HT.out (by repeat (first | (with_reducible first | exact HB.out | apply below_alloc | apply pw_below_drewN | apply below_drew1) | exact HB.out))); rintro e w18 ⟨v122, rfl, ho0, hb⟩; have n0_ := Aside0.mk (Kd.R_lower ho0 (below_size (by repeat (first | (with_reducible first | exact HB.out | apply below_alloc | apply pw_below_drewN | apply below_drew1) | exact HB.out)))); have n1_ := Aside0.mk (below_step (by repeat (first | (with_reducible first | exact HB.out | apply below_alloc | apply pw_below_drewN | apply below_drew1) | exact HB.out)) hb); clear HB; have HO123 := n0_; have HB := n1_; clear n0_ n1_; (try clear hb); (try clear hb2); (try clear hk); (try clear hi); (try clear ho0)) | (go_at_call 11; (with_reducible refine (lex_All.calls ((a0 ++ (⟨#[35]⟩ : ByteArray)) ++ a1) t124 t125 t126 _ ?side1 A14.out).mono ?_); (case side1 => exact Tabs.below HT.out (by repeat (first | (with_reducible first | exact HB.out | apply below_alloc | apply pw_below_drewN | apply below_drew1) | exact HB.out))); rintro e w19 ⟨v127, rfl, ho0, hb⟩; have n0_ := Aside0.mk (Kd.R_elder' (by (with_reducible repeat (first | apply Kd.R_alloc | apply Kd.R_drewN | apply Kd.R_drew)); exact HO123.out) (Kd.R_base ho0) hb); have n1_ := Aside0.mk (Kd.R_lower (Kd.R_new' ho0 (Kd.R_lt (by (with_reducible repeat (first | apply Kd.R_alloc | apply Kd.R_drewN | apply Kd.R_drew)); exact HO123.out))) (below_size (by repeat (first | (with_reducible first | exact HB.out | apply below_alloc | apply pw_below_drewN | apply below_drew1) | exact HB.out)))); have n2_ := Aside0.mk (below_step (by repeat (first | (with_reducible first | exact HB.out | apply below_alloc | apply pw_below_drewN | apply below_drew1) | exact HB.out)) hb); clear HO123; clear HB; have HO123 := n0_; have HO128 := n1_; have HB := n2_; clear n0_ n1_ n2_; (try clear hb); (try clear hb2); (try clear hk); (try clear hi); (try clear ho0)))
                    repeat (go_quiet (first | (go_at_call 11; (with_reducible refine (lex_All.calls a0 t119 t120 t121 _ ?side1 A11.out).mono ?_); (case side1 => exact Tabs.below HT.out (by repeat (first | (with_reducible first | exact HB.out | apply below_alloc | apply pw_below_drewN | apply below_drew1) | exact HB.out))); rintro e w18 ⟨v122, rfl, ho0, hb⟩; have n0_ := Aside0.mk (Kd.R_lower ho0 (below_size (by repeat (first | (with_reducible first | exact HB.out | apply below_alloc | apply pw_below_drewN | apply below_drew1) | exact HB.out)))); have n1_ := Aside0.mk (below_step (by repeat (first | (with_reducible first | exact HB.out | apply below_alloc | apply pw_below_drewN | apply below_drew1) | exact HB.out)) hb); clear HB; have HO123 := n0_; have HB := n1_; clear n0_ n1_; (try clear hb); (try clear hb2); (try clear hk); (try clear hi); (try clear ho0)) | (go_at_call 11; (with_reducible refine (lex_All.calls ((a0 ++ (⟨#[35]⟩ : ByteArray)) ++ a1) t124 t125 t126 _ ?side1 A14.out).mono ?_); (case side1 => exact Tabs.below HT.out (by repeat (first | (with_reducible first | exact HB.out | apply below_alloc | apply pw_below_drewN | apply below_drew1) | exact HB.out))); rintro e w19 ⟨v127, rfl, ho0, hb⟩; have n0_ := Aside0.mk (Kd.R_elder' (by (with_reducible repeat (first | apply Kd.R_alloc | apply Kd.R_drewN | apply Kd.R_drew)); exact HO123.out) (Kd.R_base ho0) hb); have n1_ := Aside0.mk (Kd.R_lower (Kd.R_new' ho0 (Kd.R_lt (by (with_reducible repeat (first | apply Kd.R_alloc | apply Kd.R_drewN | apply Kd.R_drew)); exact HO123.out))) (below_size (by repeat (first | (with_reducible first | exact HB.out | apply below_alloc | apply pw_below_drewN | apply below_drew1) | exact HB.out)))); have n2_ := Aside0.mk (below_step (by repeat (first | (with_reducible first | exact HB.out | apply below_alloc | apply pw_below_drewN | apply below_drew1) | exact HB.out)) hb); clear HO123; clear HB; have HO123 := n0_; have HO128 := n1_; have HB := n2_; clear n0_ n1_ n2_; (try clear hb); (try clear hb2); (try clear hk); (try clear hi); (try clear ho0))); go_upto_region 15 with (first | (go_at_call 11; (with_reducible refine (lex_All.calls a0 t119 t120 t121 _ ?side1 A11.out).mono ?_); (case side1 => exact Tabs.below HT.out (by repeat (first | (with_reducible first | exact HB.out | apply below_alloc | apply pw_below_drewN | apply below_drew1) | exact HB.out))); rintro e w18 ⟨v122, rfl, ho0, hb⟩; have n0_ := Aside0.mk (Kd.R_lower ho0 (below_size (by repeat (first | (with_reducible first | exact HB.out | apply below_alloc | apply pw_below_drewN | apply below_drew1) | exact HB.out)))); have n1_ := Aside0.mk (below_step (by repeat (first | (with_reducible first | exact HB.out | apply below_alloc | apply pw_below_drewN | apply below_drew1) | exact HB.out)) hb); clear HB; have HO123 := n0_; have HB := n1_; clear n0_ n1_; (try clear hb); (try clear hb2); (try clear hk); (try clear hi); (try clear ho0)) | (go_at_call 11; (with_reducible refine (lex_All.calls ((a0 ++ (⟨#[35]⟩ : ByteArray)) ++ a1) t124 t125 t126 _ ?side1 A14.out).mono ?_); (case side1 => exact Tabs.below HT.out (by repeat (first | (with_reducible first | exact HB.out | apply below_alloc | apply pw_below_drewN | apply below_drew1) | exact HB.out))); rintro e w19 ⟨v127, rfl, ho0, hb⟩; have n0_ := Aside0.mk (Kd.R_elder' (by (with_reducible repeat (first | apply Kd.R_alloc | apply Kd.R_drewN | apply Kd.R_drew)); exact HO123.out) (Kd.R_base ho0) hb); have n1_ := Aside0.mk (Kd.R_lower (Kd.R_new' ho0 (Kd.R_lt (by (with_reducible repeat (first | apply Kd.R_alloc | apply Kd.R_drewN | apply Kd.R_drew)); exact HO123.out))) (below_size (by repeat (first | (with_reducible first | exact HB.out | apply below_alloc | apply pw_below_drewN | apply below_drew1) | exact HB.out)))); have n2_ := Aside0.mk (below_step (by repeat (first | (with_reducible first | exact HB.out | apply below_alloc | apply pw_below_drewN | apply below_drew1) | exact HB.out)) hb); clear HO123; clear HB; have HO123 := n0_; have HO128 := n1_; have HB := n2_; clear n0_ n1_ n2_; (try clear hb); (try clear hb2); (try clear hk); (try clear hi); (try clear ho0))))
                    (try simp only [Act.put, List.setIfInBounds_toArray, List.set_cons_zero, List.set_cons_succ])
                    go_cut [100] (fun v100 wc => ∃ (kq : Nat) (x100_15 : Bool), v100 = .bool x100_15 ∧ Aside0 (ridgewaylaw11_LexComments.j1 kq t117 t119 t124 x100_15 = some r) ∧ Aside0 (kq ≤ kj3) ∧ Aside0 (Kd.R k32 32 wc w.heap.size (fun k_ => some k_ ≠ (v127 : Value).ownBlock) v122 t119) ∧ Aside0 (Kd.R k32 32 wc w.heap.size (fun k_ => some k_ ≠ (v122 : Value).ownBlock) v127 t124) ∧ Aside0 (Below w.heap.size w wc))
                    case first =>
                      have H := HC16.out
                      clear HC16
                      by_cases c20 : t126 = 0
                      · rw [if_pos c20] at H
                        have c20b0 : (t126 == 0) = true := beq_iff_eq.mpr c20
                        have c20b1 : (t126 != 0) = false := bne_eq_false_iff_eq.mpr c20
                        clear c20
                        (first | (rw [c20b0]; skip) | skip)
                        by_cases c21 : (t119.length : Int) = (t124.length : Int)
                        · rw [if_pos c21] at H
                          have c21b0 : ((t119.length : Int) == (t124.length : Int)) = true := beq_iff_eq.mpr c21
                          have c21b1 : ((t119.length : Int) != (t124.length : Int)) = false := bne_eq_false_iff_eq.mpr c21
                          have c21b2 : (t119.length == t124.length) = true := by first | simpa using c21 | (simp at c21 ⊢; omega)
                          clear c21
                          have H' := Aside0.mk H
                          clear H
                          obtain ⟨Ao22, co22, eo22⟩ := Kd.R_slice HO123.out
                          subst eo22
                          obtain ⟨Ao23, co23, eo23⟩ := Kd.R_slice HO128.out
                          subst eo23
                          go_wp2
                          repeat (go_quiet (fail); try go_wp2)
                          go_meet
                          case rel => exact ⟨_, ((t125 != (wrap64 ((wrap64 (t120 + 1)) + t118)))), (by first | rfl | (simp; done) | (simp [*]; done)), H', ⟨by have := HJ3.out; first | omega | exact Nat.le_refl _⟩, ⟨by (with_reducible repeat (first | apply Kd.R_alloc | apply Kd.R_drewN | apply Kd.R_drew)); exact Kd.R_mono HO123.out (fun _ hk => hk.2)⟩, ⟨by (with_reducible repeat (first | apply Kd.R_alloc | apply Kd.R_drewN | apply Kd.R_drew)); exact Kd.R_mono HO128.out (fun _ hk => hk.2)⟩, ⟨by repeat (first | (with_reducible first | exact HB.out | apply below_alloc | apply pw_below_drewN | apply below_drew1) | exact HB.out)⟩⟩
                        · rw [if_neg c21] at H
                          have c21b0 : ((t119.length : Int) == (t124.length : Int)) = false := beq_eq_false_iff_ne.mpr c21
                          have c21b1 : ((t119.length : Int) != (t124.length : Int)) = true := bne_iff_ne.mpr c21
                          have c21b2 : (t119.length == t124.length) = false := by first | simpa using c21 | (simp at c21 ⊢; omega)
                          have H' := Aside0.mk H
                          clear H
                          obtain ⟨Ao24, co24, eo24⟩ := Kd.R_slice HO123.out
                          subst eo24
                          obtain ⟨Ao25, co25, eo25⟩ := Kd.R_slice HO128.out
                          subst eo25
                          go_wp2
                          repeat (go_quiet (fail); try go_wp2)
                          go_meet
                          case rel => exact ⟨_, (true), (by first | rfl | (simp; done) | (simp [*]; done)), H', ⟨by have := HJ3.out; first | omega | exact Nat.le_refl _⟩, ⟨by (with_reducible repeat (first | apply Kd.R_alloc | apply Kd.R_drewN | apply Kd.R_drew)); exact Kd.R_mono HO123.out (fun _ hk => hk.2)⟩, ⟨by (with_reducible repeat (first | apply Kd.R_alloc | apply Kd.R_drewN | apply Kd.R_drew)); exact Kd.R_mono HO128.out (fun _ hk => hk.2)⟩, ⟨by repeat (first | (with_reducible first | exact HB.out | apply below_alloc | apply pw_below_drewN | apply below_drew1) | exact HB.out)⟩⟩
                      · rw [if_neg c20] at H
                        have c20b0 : (t126 == 0) = false := beq_eq_false_iff_ne.mpr c20
                        have c20b1 : (t126 != 0) = true := bne_iff_ne.mpr c20
                        (first | (rw [c20b0]; skip) | skip)
                        have H' := Aside0.mk H
                        clear H
                        go_wp2
                        repeat (go_quiet (fail); try go_wp2)
                        go_meet
                        case rel => exact ⟨_, (true), (by first | rfl | (simp; done) | (simp [*]; done)), H', ⟨by have := HJ3.out; first | omega | exact Nat.le_refl _⟩, ⟨by (with_reducible repeat (first | apply Kd.R_alloc | apply Kd.R_drewN | apply Kd.R_drew)); exact Kd.R_mono HO123.out (fun _ hk => hk.2)⟩, ⟨by (with_reducible repeat (first | apply Kd.R_alloc | apply Kd.R_drewN | apply Kd.R_drew)); exact Kd.R_mono HO128.out (fun _ hk => hk.2)⟩, ⟨by repeat (first | (with_reducible first | exact HB.out | apply below_alloc | apply pw_below_drewN | apply below_drew1) | exact HB.out)⟩⟩
                    case rest =>
                      clear HC16
                      try clear c1
                      try clear c2
                      try clear p2
                      try clear c6
                      try clear c6b0
                      try clear c6b1
                      try clear p6
                      try clear c7
                      try clear c9
                      try clear c9b0
                      try clear c12
                      try clear c12b0
                      try clear c12b1
                      try clear c12b2
                      try clear c13
                      try clear c13b0
                      try clear c13b1
                      try clear c13b2
                      try clear c15
                      try clear c15b0
                      try clear c15b1
                      try clear c20
                      try clear c20b0
                      try clear c20b1
                      try clear c21
                      try clear c21b0
                      try clear c21b1
                      try clear c21b2
                      try clear p2
                      obtain ⟨kq, x100_15, rfl, HA, HJ15, HO_9, HO_12, HB⟩ := hcut
                      cases kq with
                      | zero => exact absurd HA.out (by simp [ridgewaylaw11_LexComments.j1])
                      | succ kj15 =>
                        have H := HA.out
                        clear HA
                        simp only [ridgewaylaw11_LexComments.j1] at H
                        by_cases c26 : x100_15 = true
                        · subst c26
                          have H1 : (none) = some r := by rw [if_pos rfl] at H; exact H
                          clear H
                          have H := H1
                          clear H1
                          exact absurd H (by simp)
                        · replace c26 := Bool.eq_false_iff.mpr c26
                          subst c26
                          have H1 : (ridgewaylaw11_LexComments.l0 kj15 t117 t119 t124 0) = some r := by rw [if_neg (show ¬ (false = true) by decide)] at H; exact H
                          clear H
                          have H := H1
                          clear H1
                          have H' := Aside0.mk H
                          clear H
                          go_wp2
                          repeat (go_quiet (fail); try go_wp2)
                          go_loopg [15] kj15 (fun kq v15 w' => ∃ (x15_3 : Int), v15 = .int .i64 x15_3 ∧ Aside0 (ridgewaylaw11_LexComments.l0 kq t117 t119 t124 x15_3 = some r) ∧ Aside0 (kq ≤ kj15) ∧ Aside0 (Kd.R k32 32 w' w.heap.size (fun k_ => some k_ ≠ (v127 : Value).ownBlock) v122 t119) ∧ Aside0 (Kd.R k32 32 w' w.heap.size (fun k_ => some k_ ≠ (v122 : Value).ownBlock) v127 t124) ∧ Aside0 (Below w.heap.size w w'))
                          case atStart => exact ⟨(0), (by first | rfl | (simp; done) | (simp [*]; done)), H', ⟨Nat.le_refl _⟩, ⟨by (with_reducible repeat (first | apply Kd.R_alloc | apply Kd.R_drewN | apply Kd.R_drew)); exact HO_9.out⟩, ⟨by (with_reducible repeat (first | apply Kd.R_alloc | apply Kd.R_drewN | apply Kd.R_drew)); exact HO_12.out⟩, ⟨by repeat (first | (with_reducible first | exact HB.out | apply below_alloc | apply pw_below_drewN | apply below_drew1) | exact HB.out)⟩⟩
                          case round =>
                            clear H'
                            try clear c1
                            try clear c2
                            try clear p2
                            try clear c6
                            try clear c6b0
                            try clear c6b1
                            try clear p6
                            try clear c7
                            try clear c9
                            try clear c9b0
                            try clear c12
                            try clear c12b0
                            try clear c12b1
                            try clear c12b2
                            try clear c13
                            try clear c13b0
                            try clear c13b1
                            try clear c13b2
                            try clear c15
                            try clear c15b0
                            try clear c15b1
                            try clear c20
                            try clear c20b0
                            try clear c20b1
                            try clear c21
                            try clear c21b0
                            try clear c21b1
                            try clear c21b2
                            try clear c26
                            try clear p2
                            try clear p6
                            obtain ⟨x15_3, rfl, HA, HK3, HO_9, HO_12, HB⟩ := hrel
                            cases gk with
                            | zero => exact absurd HA.out (by simp [ridgewaylaw11_LexComments.l0])
                            | succ k3 =>
                              have H := HA.out
                              clear HA
                              simp only [ridgewaylaw11_LexComments.l0] at H
                              by_cases c27 : x15_3 < (wrap64 ((t119.length : Int) - 1))
                              · rw [if_pos c27] at H
                                have c27b0 : decide (x15_3 < (wrap64 ((t119.length : Int) - 1))) = true := decide_eq_true c27
                                clear c27
                                by_cases c28 : 0 ≤ x15_3
                                · rw [if_pos c28] at H
                                  have c28b0 : decide (0 ≤ x15_3) = true := decide_eq_true c28
                                  clear c28
                                  by_cases c29 : x15_3 < (t119.length : Int)
                                  · rw [if_pos c29] at H
                                    have c29b0 : decide (x15_3 < (t119.length : Int)) = true := decide_eq_true c29
                                    clear c29
                                    by_cases c30 : x15_3 < (t124.length : Int)
                                    · rw [if_pos c30] at H
                                      have c30b0 : decide (x15_3 < (t124.length : Int)) = true := decide_eq_true c30
                                      clear c30
                                      by_cases c31 : (!(((rd_T32 t119 x15_3).f0) == ((rd_T32 t124 x15_3).f0)) || (!(((rd_T32 t119 x15_3).f1) == ((rd_T32 t124 x15_3).f1)) || (!((((rd_T32 t119 x15_3).f2).toList) == (((rd_T32 t124 x15_3).f2).toList))))) = true
                                      · rw [if_pos c31] at H
                                        exact absurd H (by simp)
                                      · rw [if_neg c31] at H
                                        have c31b0 : (!(((rd_T32 t119 x15_3).f0) == ((rd_T32 t124 x15_3).f0)) || (!(((rd_T32 t119 x15_3).f1) == ((rd_T32 t124 x15_3).f1)) || (!((((rd_T32 t119 x15_3).f2).toList) == (((rd_T32 t124 x15_3).f2).toList))))) = false := by simpa using c31
                                        clear c31
                                        have H' := Aside0.mk H
                                        clear H
                                        obtain ⟨Ao32, co32, eo32⟩ := Kd.R_slice HO_9.out
                                        subst eo32
                                        have p129 : 0 ≤ (x15_3 : Int) := of_decide_eq_true (by first | (with_reducible assumption) | assumption)
                                        have q129 : x15_3 < (t119.length : Int) := of_decide_eq_true (by first | (with_reducible assumption) | assumption)
                                        obtain ⟨ad129, e129, hx129_0, hx129_1, hx129_2⟩ := at_T32 (Kd.R_reads' HO_9.out).2.2 x15_3 p129 q129
                                        cases e129
                                        replace p129 := eq_true p129
                                        replace q129 := eq_true q129
                                        obtain ⟨Ao33, co33, eo33⟩ := Kd.R_slice HO_12.out
                                        subst eo33
                                        have p130 : 0 ≤ (x15_3 : Int) := of_decide_eq_true (by first | (with_reducible assumption) | assumption)
                                        have q130 : x15_3 < (t124.length : Int) := of_decide_eq_true (by first | (with_reducible assumption) | assumption)
                                        obtain ⟨ad130, e130, hx130_0, hx130_1, hx130_2⟩ := at_T32 (Kd.R_reads' HO_12.out).2.2 x15_3 p130 q130
                                        cases e130
                                        replace p130 := eq_true p130
                                        replace q130 := eq_true q130
                                        go_wp2
                                        repeat (go_quiet (fail); try go_wp2)
                                        go_roundg k3
                                        case measure => have := HJ3.out; have := HJ15.out; have := HK3.out; omega
                                        case rel => exact ⟨(wrap64 (x15_3 + 1)), (by first | rfl | (simp; done) | (simp [*]; done)), H', ⟨by have := HJ3.out; have := HJ15.out; have := HK3.out; omega⟩, ⟨by (with_reducible repeat (first | apply Kd.R_alloc | apply Kd.R_drewN | apply Kd.R_drew)); exact HO_9.out⟩, ⟨by (with_reducible repeat (first | apply Kd.R_alloc | apply Kd.R_drewN | apply Kd.R_drew)); exact HO_12.out⟩, ⟨by repeat (first | (with_reducible first | exact HB.out | apply below_alloc | apply pw_below_drewN | apply below_drew1) | exact HB.out)⟩⟩
                                    · rw [if_neg c30] at H
                                      exact absurd H (by simp)
                                  · rw [if_neg c29] at H
                                    exact absurd H (by simp)
                                · rw [if_neg c28] at H
                                  exact absurd H (by simp)
                              · rw [if_neg c27] at H
                                have c27b0 : decide (x15_3 < (wrap64 ((t119.length : Int) - 1))) = false := decide_eq_false c27
                                clear c27
                                by_cases c34 : t117 = true
                                · subst c34
                                  have H1 : (if 0 ≤ (wrap64 ((t124.length : Int) - 1)) then (if (wrap64 ((t124.length : Int) - 1)) < (t124.length : Int) then (some (((rd_T32 t124 (wrap64 ((t124.length : Int) - 1))).f0) == 2)) else (none)) else (none)) = some r := by rw [if_pos rfl] at H; exact H
                                  clear H
                                  have H := H1
                                  clear H1
                                  obtain ⟨ji35, hji35⟩ : ∃ j_ : Int, (wrap64 ((t124.length : Int) - 1)) = j_ := ⟨_, rfl⟩
                                  replace H : (if 0 ≤ (ji35) then (if (ji35) < (t124.length : Int) then (some (((rd_T32 t124 (ji35)).f0) == 2)) else (none)) else (none)) = some r := by first | (rw [hji35] at H; exact H) | (simp only [hji35] at H ⊢; exact H)
                                  have hji35w : (IntKind.i64.wrap ((t124.length : Int) - 1)) = ji35 := (i64_w _).trans hji35
                                  by_cases c36 : 0 ≤ (ji35)
                                  · rw [if_pos c36] at H
                                    have c36b0 : decide (0 ≤ (ji35)) = true := decide_eq_true c36
                                    clear c36
                                    by_cases c37 : (ji35) < (t124.length : Int)
                                    · rw [if_pos c37] at H
                                      have c37b0 : decide ((ji35) < (t124.length : Int)) = true := decide_eq_true c37
                                      clear c37
                                      obtain rfl := Option.some.inj H
                                      obtain ⟨Ao38, co38, eo38⟩ := Kd.R_slice HO_9.out
                                      subst eo38
                                      obtain ⟨Ao39, co39, eo39⟩ := Kd.R_slice HO_12.out
                                      subst eo39
                                      have p131 : 0 ≤ ((ji35) : Int) := of_decide_eq_true (by first | (with_reducible assumption) | assumption)
                                      have q131 : (ji35) < (t124.length : Int) := of_decide_eq_true (by first | (with_reducible assumption) | assumption)
                                      obtain ⟨ad131, e131, hx131_0, hx131_1, hx131_2⟩ := at_T32 (Kd.R_reads' HO_12.out).2.2 (ji35) p131 q131
                                      cases e131
                                      replace p131 := eq_true p131
                                      replace q131 := eq_true q131
                                      go_wp2
                                      repeat (go_quiet (fail); try go_wp2)
                                      go_ret
                                      exact ⟨by first | rfl | (simp [errW_none, errW_some] <;> rfl) | (simp only [← hji35]; first | rfl | (simp [errW_none, errW_some] <;> rfl)) | (simp [*, errW_none, errW_some] <;> rfl), by repeat (first | (with_reducible first | exact HB.out | apply below_alloc | apply pw_below_drewN | apply below_drew1) | exact HB.out)⟩
                                    · rw [if_neg c37] at H
                                      exact absurd H (by simp)
                                  · rw [if_neg c36] at H
                                    exact absurd H (by simp)
                                · replace c34 := Bool.eq_false_iff.mpr c34
                                  subst c34
                                  have H1 : (none) = some r := by rw [if_neg (show ¬ (false = true) by decide)] at H; exact H
                                  clear H
                                  have H := H1
                                  clear H1
                                  exact absurd H (by simp)
                  · rw [if_neg c15] at H
                    have c15b0 : (t121 == 0) = false := beq_eq_false_iff_ne.mpr c15
                    have c15b1 : (t121 != 0) = true := bne_iff_ne.mpr c15
                    by_cases c40 : t117 = true
                    · subst c40
                      have H1 : (if t126 = t121 then (some (t120 == t125)) else (none)) = some r := by rw [if_pos rfl] at H; exact H
                      clear H
                      have H := H1
                      clear H1
                      by_cases c41 : t126 = t121
                      · rw [if_pos c41] at H
                        have c41b0 : (t126 == t121) = true := beq_iff_eq.mpr c41
                        have c41b1 : (t126 != t121) = false := bne_eq_false_iff_eq.mpr c41
                        clear c41
                        obtain rfl := Option.some.inj H
                        go_wp2_with (first | (go_at_call 11; (with_reducible refine (lex_All.calls a0 t119 t120 t121 _ ?side1 A11.out).mono ?_); (case side1 => exact Tabs.below HT.out (by repeat (first | (with_reducible first | exact HB.out | apply below_alloc | apply pw_below_drewN | apply below_drew1) | exact HB.out))); rintro e w43 ⟨v122, rfl, ho0, hb⟩; have n0_ := Aside0.mk (Kd.R_lower ho0 (below_size (by repeat (first | (with_reducible first | exact HB.out | apply below_alloc | apply pw_below_drewN | apply below_drew1) | exact HB.out)))); have n1_ := Aside0.mk (below_step (by repeat (first | (with_reducible first | exact HB.out | apply below_alloc | apply pw_below_drewN | apply below_drew1) | exact HB.out)) hb); clear HB; have HO123 := n0_; have HB := n1_; clear n0_ n1_; (try clear hb); (try clear hb2); (try clear hk); (try clear hi); (try clear ho0)) | (go_at_call 11; (with_reducible refine (lex_All.calls ((a0 ++ (⟨#[35]⟩ : ByteArray)) ++ a1) t124 t125 t126 _ ?side1 A14.out).mono ?_); (case side1 => exact Tabs.below HT.out (by repeat (first | (with_reducible first | exact HB.out | apply below_alloc | apply pw_below_drewN | apply below_drew1) | exact HB.out))); rintro e w44 ⟨v127, rfl, ho0, hb⟩; have n0_ := Aside0.mk (Kd.R_elder' (by (with_reducible repeat (first | apply Kd.R_alloc | apply Kd.R_drewN | apply Kd.R_drew)); exact HO123.out) (Kd.R_base ho0) hb); have n1_ := Aside0.mk (Kd.R_lower (Kd.R_new' ho0 (Kd.R_lt (by (with_reducible repeat (first | apply Kd.R_alloc | apply Kd.R_drewN | apply Kd.R_drew)); exact HO123.out))) (below_size (by repeat (first | (with_reducible first | exact HB.out | apply below_alloc | apply pw_below_drewN | apply below_drew1) | exact HB.out)))); have n2_ := Aside0.mk (below_step (by repeat (first | (with_reducible first | exact HB.out | apply below_alloc | apply pw_below_drewN | apply below_drew1) | exact HB.out)) hb); clear HO123; clear HB; have HO123 := n0_; have HO128 := n1_; have HB := n2_; clear n0_ n1_ n2_; (try clear hb); (try clear hb2); (try clear hk); (try clear hi); (try clear ho0)))
                        repeat (go_quiet (first | (go_at_call 11; (with_reducible refine (lex_All.calls a0 t119 t120 t121 _ ?side1 A11.out).mono ?_); (case side1 => exact Tabs.below HT.out (by repeat (first | (with_reducible first | exact HB.out | apply below_alloc | apply pw_below_drewN | apply below_drew1) | exact HB.out))); rintro e w43 ⟨v122, rfl, ho0, hb⟩; have n0_ := Aside0.mk (Kd.R_lower ho0 (below_size (by repeat (first | (with_reducible first | exact HB.out | apply below_alloc | apply pw_below_drewN | apply below_drew1) | exact HB.out)))); have n1_ := Aside0.mk (below_step (by repeat (first | (with_reducible first | exact HB.out | apply below_alloc | apply pw_below_drewN | apply below_drew1) | exact HB.out)) hb); clear HB; have HO123 := n0_; have HB := n1_; clear n0_ n1_; (try clear hb); (try clear hb2); (try clear hk); (try clear hi); (try clear ho0)) | (go_at_call 11; (with_reducible refine (lex_All.calls ((a0 ++ (⟨#[35]⟩ : ByteArray)) ++ a1) t124 t125 t126 _ ?side1 A14.out).mono ?_); (case side1 => exact Tabs.below HT.out (by repeat (first | (with_reducible first | exact HB.out | apply below_alloc | apply pw_below_drewN | apply below_drew1) | exact HB.out))); rintro e w44 ⟨v127, rfl, ho0, hb⟩; have n0_ := Aside0.mk (Kd.R_elder' (by (with_reducible repeat (first | apply Kd.R_alloc | apply Kd.R_drewN | apply Kd.R_drew)); exact HO123.out) (Kd.R_base ho0) hb); have n1_ := Aside0.mk (Kd.R_lower (Kd.R_new' ho0 (Kd.R_lt (by (with_reducible repeat (first | apply Kd.R_alloc | apply Kd.R_drewN | apply Kd.R_drew)); exact HO123.out))) (below_size (by repeat (first | (with_reducible first | exact HB.out | apply below_alloc | apply pw_below_drewN | apply below_drew1) | exact HB.out)))); have n2_ := Aside0.mk (below_step (by repeat (first | (with_reducible first | exact HB.out | apply below_alloc | apply pw_below_drewN | apply below_drew1) | exact HB.out)) hb); clear HO123; clear HB; have HO123 := n0_; have HO128 := n1_; have HB := n2_; clear n0_ n1_ n2_; (try clear hb); (try clear hb2); (try clear hk); (try clear hi); (try clear ho0))); try go_wp2_with (first | (go_at_call 11; (with_reducible refine (lex_All.calls a0 t119 t120 t121 _ ?side1 A11.out).mono ?_); (case side1 => exact Tabs.below HT.out (by repeat (first | (with_reducible first | exact HB.out | apply below_alloc | apply pw_below_drewN | apply below_drew1) | exact HB.out))); rintro e w43 ⟨v122, rfl, ho0, hb⟩; have n0_ := Aside0.mk (Kd.R_lower ho0 (below_size (by repeat (first | (with_reducible first | exact HB.out | apply below_alloc | apply pw_below_drewN | apply below_drew1) | exact HB.out)))); have n1_ := Aside0.mk (below_step (by repeat (first | (with_reducible first | exact HB.out | apply below_alloc | apply pw_below_drewN | apply below_drew1) | exact HB.out)) hb); clear HB; have HO123 := n0_; have HB := n1_; clear n0_ n1_; (try clear hb); (try clear hb2); (try clear hk); (try clear hi); (try clear ho0)) | (go_at_call 11; (with_reducible refine (lex_All.calls ((a0 ++ (⟨#[35]⟩ : ByteArray)) ++ a1) t124 t125 t126 _ ?side1 A14.out).mono ?_); (case side1 => exact Tabs.below HT.out (by repeat (first | (with_reducible first | exact HB.out | apply below_alloc | apply pw_below_drewN | apply below_drew1) | exact HB.out))); rintro e w44 ⟨v127, rfl, ho0, hb⟩; have n0_ := Aside0.mk (Kd.R_elder' (by (with_reducible repeat (first | apply Kd.R_alloc | apply Kd.R_drewN | apply Kd.R_drew)); exact HO123.out) (Kd.R_base ho0) hb); have n1_ := Aside0.mk (Kd.R_lower (Kd.R_new' ho0 (Kd.R_lt (by (with_reducible repeat (first | apply Kd.R_alloc | apply Kd.R_drewN | apply Kd.R_drew)); exact HO123.out))) (below_size (by repeat (first | (with_reducible first | exact HB.out | apply below_alloc | apply pw_below_drewN | apply below_drew1) | exact HB.out)))); have n2_ := Aside0.mk (below_step (by repeat (first | (with_reducible first | exact HB.out | apply below_alloc | apply pw_below_drewN | apply below_drew1) | exact HB.out)) hb); clear HO123; clear HB; have HO123 := n0_; have HO128 := n1_; have HB := n2_; clear n0_ n1_ n2_; (try clear hb); (try clear hb2); (try clear hk); (try clear hi); (try clear ho0))))
                        go_ret
                        exact ⟨by first | rfl | (simp [errW_none, errW_some] <;> rfl) | (simp [*, errW_none, errW_some] <;> rfl), by repeat (first | (with_reducible first | exact HB.out | apply below_alloc | apply pw_below_drewN | apply below_drew1) | exact HB.out)⟩
                      · rw [if_neg c41] at H
                        exact absurd H (by simp)
                    · replace c40 := Bool.eq_false_iff.mpr c40
                      subst c40
                      have H1 : (none) = some r := by rw [if_neg (show ¬ (false = true) by decide)] at H; exact H
                      clear H
                      have H := H1
                      clear H1
                      exact absurd H (by simp)
                · rw [if_neg c13] at H
                  exact absurd H (by simp)
              · rw [if_neg c12] at H
                exact absurd H (by simp)

end Go.Proofs.YtmohglifmoecnaaDoor.PCom
