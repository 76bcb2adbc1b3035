/- Notes are what the document says (the law NoteIs), as a statement over numbers and lists alone: what may be, what is put and got, what is known, and the name, as the reference says it, for all notes, messages and numbers of which the reference speaks; no further condition. -/
import Derived.Test.YtjelhhmnpodlkaaDoorPdNoteIs
import Derived.Test.YtjelhhmnpodlkaaDoorPureNote
namespace Go.Proofs.YtjelhhmnpodlkaaDoor.Pure
open Go.RowKit Go.Proofs.YtjelhhmnpodlkaaDoor.PAll Go.Proofs.YtjelhhmnpodlkaaDoorW.PrintWords Go.Proofs.YtjelhhmnpodlkaaDoorW.PrintLast
set_option linter.unusedVariables false
theorem refSane_f (c s : Int) (l : List Int) : ridgewayref05_Sane.f c s l = some (saneB c s l) := sane_f c s l
theorem refPut_f (c s : Int) (l : List Int) : ridgewayref05_Put.f c s l = some (putB c s l) := by
  unfold ridgewayref05_Put.f putB
  rw [refSane_f]
  simp only [Option.bind_some]
  by_cases h : saneB c s l = true
  · rw [if_pos h, if_pos h, if_pos (by unfold saneB at h; have := of_decide_eq_true h; simp only [List.length_cons, List.length_nil]; omega)]
    rfl
  · rw [if_neg h, if_neg h]
theorem byte_rd {l : List Int} (hb : ∀ x ∈ l, g5 x) (i : Nat) (hi : i < l.length) : 0 ≤ rd l (i : Int) ∧ rd l (i : Int) ≤ 255 := by
  have e : rd l (i : Int) = l[i] := by simp [rd, List.getD_eq_getElem?_getD, hi]
  have h : (Lit.int .u8 l[i]).wf = true := hb _ (List.getElem_mem hi)
  have h' : IntKind.u8.min ≤ l[i] ∧ l[i] ≤ IntKind.u8.max := by simpa [Lit.wf] using h
  rw [e]
  exact h'
theorem wrap_byte {x : Int} (h : 0 ≤ x ∧ x ≤ 255) : wrap64 x = x := by unfold wrap64; omega
theorem refGet_f (m : Int) (l : List Int) (hb : ∀ x ∈ l, g5 x) : ridgewayref05_Get.f m l = some (getB m l) := by
  unfold ridgewayref05_Get.f getB
  by_cases h1 : m = 3
  · by_cases h2 : 2 ≤ l.length
    · have b0 := byte_rd hb 0 (by omega)
      have b1 := byte_rd hb 1 (by omega)
      have b0' : 0 ≤ rd l 0 ∧ rd l 0 ≤ 255 := b0
      have b1' : 0 ≤ rd l 1 ∧ rd l 1 ≤ 255 := b1
      rw [if_pos h1, if_pos h2, wrap_byte b0', wrap_byte b1']
      by_cases h3 : l.length ≤ 4077
      · rw [if_pos h3]
        by_cases h4 : rd l 0 = 0
        · rw [if_pos h4, if_neg]
          rintro ⟨_, _, e⟩
          unfold saneB at e
          have := of_decide_eq_true e
          omega
        · rw [if_neg h4, if_pos]
          refine ⟨h1, h2, ?_⟩
          unfold saneB
          rw [decide_eq_true_eq, List.length_drop]
          omega
      · rw [if_neg h3, if_neg]
        rintro ⟨_, _, e⟩
        unfold saneB at e
        have := of_decide_eq_true e
        rw [List.length_drop] at this
        omega
    · rw [if_pos h1, if_neg h2, if_neg (fun e => h2 e.2.1)]
  · rw [if_neg h1, if_neg (fun e => h1 e.1)]
theorem refKnown_f (c s : Int) : ridgewayref05_Known.f c s = some (knownB c s) := by
  by_cases h : 1 ≤ c ∧ c ≤ 6 ∧ 0 ≤ s ∧ s < 32
  · obtain ⟨h1, h2, h3, h4⟩ := h
    obtain ⟨n, rfl⟩ := Int.eq_ofNat_of_zero_le (show 0 ≤ c by omega)
    obtain ⟨m, rfl⟩ := Int.eq_ofNat_of_zero_le h3
    have key : ∀ n : Fin 7, ∀ m : Fin 32, 1 ≤ n.val → ridgewayref05_Known.f ((n.val : Nat) : Int) ((m.val : Nat) : Int) = some (knownB ((n.val : Nat) : Int) ((m.val : Nat) : Int)) := by decide +kernel
    exact key ⟨n, by omega⟩ ⟨m, by omega⟩ (by show 1 ≤ n; omega)
  · have hk : knownB c s = false := by
      cases e : knownB c s with
      | false => rfl
      | true =>
        unfold knownB at e
        simp only [Bool.and_eq_true, decide_eq_true_eq] at e
        exact absurd ⟨e.1, e.2.1, e.2.2.1, e.2.2.2.1⟩ h
    rw [hk]
    unfold ridgewayref05_Known.f
    by_cases c1 : c = 1
    · rw [if_pos c1]
      by_cases d : s ≥ 1
      · rw [if_pos d, decide_eq_false (by omega)]
      · rw [if_neg d]
    · rw [if_neg c1]
      by_cases c2 : c = 2
      · rw [if_pos c2, if_neg (show ¬ s = 6 by omega), if_neg (show ¬ s = 7 by omega), show (s == 11) = false from beq_eq_false_iff_ne.mpr (by omega)]
        by_cases d : s ≥ 1
        · rw [if_pos d, if_neg (show ¬ s ≤ 4 by omega)]
        · rw [if_neg d]
      · rw [if_neg c2]
        by_cases c3 : c = 3
        · rw [if_pos c3]
          by_cases d : s ≥ 1
          · rw [if_pos d, if_neg (show ¬ s ≤ 11 by omega)]
          · rw [if_neg d]
        · rw [if_neg c3]
          by_cases c4 : c = 4
          · rw [if_pos c4, show (s == 0) = false from beq_eq_false_iff_ne.mpr (by omega)]
          · rw [if_neg c4]
            by_cases c5 : c = 5
            · rw [if_pos c5]
              by_cases d : s ≥ 0
              · rw [if_pos d, decide_eq_false (by omega)]
              · rw [if_neg d]
            · rw [if_neg c5]
              by_cases c6 : c = 6
              · rw [if_pos c6]
                by_cases d : s ≥ 1
                · rw [if_pos d, decide_eq_false (by omega)]
                · rw [if_neg d]
              · rw [if_neg c6]
/-! ### the reference's digits -/
def strB (l : List UInt8) : ByteArray := ⟨l.toArray⟩
theorem strB_size (l : List UInt8) : (strB l).size = l.length := by simp [strB, ByteArray.size]
theorem strB_append (a b : List UInt8) : strB a ++ strB b = strB (a ++ b) := by
  apply ByteArray.ext
  simp [strB, ByteArray.data_append]
theorem ev_one (n : Nat) (h : n < 10) : ∀ k, ridgewayref02_Digits.f (k + 1) (n : Int) = some (strB (Lib.decDigits n)) := by
  intro k
  have key : ∀ n : Fin 10, ((⟨#[48, 49, 50, 51, 52, 53, 54, 55, 56, 57]⟩ : ByteArray).extract n.val (n.val + 1)) = strB [UInt8.ofNat (48 + n.val)] := by decide +kernel
  have hw : wrap64 ((n : Int) + 1) = (n : Int) + 1 := by unfold wrap64; omega
  simp only [ridgewayref02_Digits.f]
  rw [if_pos (by omega), if_pos (by omega), hw, if_pos (by omega), if_pos (by omega), decDigits_small n h, ← key ⟨n, h⟩]
  rfl
theorem ev_digits (n : Nat) : n ≤ 9223372036854775807 → Ev (fun k => ridgewayref02_Digits.f k (n : Int)) (strB (Lib.decDigits n)) := by
  induction n using Nat.strongRecOn with
  | _ n ih =>
    intro hn
    by_cases h : n < 10
    · exact Ev.step (f := fun _ => some (strB (Lib.decDigits n))) (fun k => ev_one n h k) (Ev.now _)
    · have h1 := ih (n / 10) (by omega) (by omega)
      have h2 : Ev (fun k => ridgewayref02_Digits.f k ((n % 10 : Nat) : Int)) (strB (Lib.decDigits (n % 10))) := Ev.step (f := fun _ => some (strB (Lib.decDigits (n % 10)))) (fun k => ev_one _ (by omega) k) (Ev.now _)
      have e1 : wrap64 (Int.tdiv (n : Int) 10) = ((n / 10 : Nat) : Int) := by
        have : Int.tdiv (n : Int) 10 = ((n / 10 : Nat) : Int) := by rw [Int.tdiv_eq_ediv_of_nonneg (by omega)]; omega
        rw [this]; unfold wrap64; omega
      have e2 : Int.tmod (n : Int) 10 = ((n % 10 : Nat) : Int) := by rw [Int.tmod_eq_emod_of_nonneg (by omega)]; omega
      refine Ev.step (f := fun k => (ridgewayref02_Digits.f k ((n / 10 : Nat) : Int)).bind fun t154 => ((ridgewayref02_Digits.f k ((n % 10 : Nat) : Int)).bind fun t155 => (if t154.size + t155.size ≤ 9223372036854775807 then (some (t154 ++ t155)) else (none)))) (fun k => ?_) (Ev.bind h1 (Ev.bind h2 ?_))
      · simp only [ridgewayref02_Digits.f]
        rw [if_neg (by omega), e1, e2]
      · have l1 := nDigits_le 19 (n / 10) (by omega) (by omega)
        have l2 := nDigits_le 19 (n % 10) (by omega) (by omega)
        have : strB (Lib.decDigits (n / 10)) ++ strB (Lib.decDigits (n % 10)) = strB (Lib.decDigits n) := by
          rw [strB_append, decDigits_step n h, decDigits_small (n % 10) (by omega)]
        refine Ev.congr (fun k => ?_) (Ev.now _)
        rw [if_pos (by rw [strB_size, strB_size, Lib.decDigits_length, Lib.decDigits_length]; omega), this]
theorem ev_itoa_neg (m : Nat) : 1 ≤ m → m ≤ 9223372036854775808 → Ev (fun k => ridgewayref05_digits.f k (-(m : Int))) (strB (45 :: Lib.decDigits m)) := by
  induction m using Nat.strongRecOn with
  | _ m ih =>
    intro h0 hm
    by_cases h : m < 10
    · have h1 := ev_digits m (by omega)
      have e : wrap64 (-(-(m : Int))) = (m : Int) := by unfold wrap64; omega
      refine Ev.step (f := fun k => (ridgewayref02_Digits.f k (m : Int)).bind fun t157 => (if 1 + t157.size ≤ 9223372036854775807 then (some ((⟨#[45]⟩ : ByteArray) ++ t157)) else (none))) (fun k => ?_) (Ev.bind h1 ?_)
      · simp only [ridgewayref05_digits.f]
        rw [if_neg (by omega), if_pos (by omega), e]
      · have l1 := nDigits_le 19 m (by omega) (by omega)
        refine Ev.congr (fun k => ?_) (Ev.now _)
        rw [if_pos (by rw [strB_size, Lib.decDigits_length]; omega)]
        exact congrArg some (strB_append [45] _)
    · have h1 := ih (m / 10) (by omega) (by omega) (by omega)
      have h2 := ev_digits (m % 10) (by omega)
      have q1 : Int.tdiv (-(m : Int)) 10 = -((m / 10 : Nat) : Int) := by rw [Int.neg_tdiv, Int.tdiv_eq_ediv_of_nonneg (by omega)]; omega
      have q2 : Int.tmod (-(m : Int)) 10 = -((m % 10 : Nat) : Int) := by rw [Int.neg_tmod, Int.tmod_eq_emod_of_nonneg (by omega)]; omega
      have e1 : wrap64 (Int.tdiv (-(m : Int)) 10) = -((m / 10 : Nat) : Int) := by rw [q1]; unfold wrap64; omega
      have e2 : wrap64 (-(Int.tmod (-(m : Int)) 10)) = ((m % 10 : Nat) : Int) := by rw [q2]; unfold wrap64; omega
      refine Ev.step (f := fun k => (ridgewayref05_digits.f k (-((m / 10 : Nat) : Int))).bind fun t158 => ((ridgewayref02_Digits.f k ((m % 10 : Nat) : Int)).bind fun t159 => (if t158.size + t159.size ≤ 9223372036854775807 then (some (t158 ++ t159)) else (none)))) (fun k => ?_) (Ev.bind h1 (Ev.bind h2 ?_))
      · simp only [ridgewayref05_digits.f]
        rw [if_neg (by omega), if_neg (by omega), e1, e2]
      · have l1 := nDigits_le 19 (m / 10) (by omega) (by omega)
        have l2 := nDigits_le 19 (m % 10) (by omega) (by omega)
        have : strB (45 :: Lib.decDigits (m / 10)) ++ strB (Lib.decDigits (m % 10)) = strB (45 :: Lib.decDigits m) := by
          rw [strB_append, decDigits_step m h, decDigits_small (m % 10) (by omega), List.cons_append]
        refine Ev.congr (fun k => ?_) (Ev.now _)
        rw [if_pos (by rw [strB_size, strB_size, List.length_cons, Lib.decDigits_length, Lib.decDigits_length]; omega), this]
theorem ev_itoa (n : Int) (h : i64ok n = true) : Ev (fun k => ridgewayref05_digits.f k n) (itoaB n) := by
  obtain ⟨h0, h1⟩ := i64ok_iff h
  by_cases hn : n < 0
  · have := ev_itoa_neg n.natAbs (by omega) (by omega)
    rw [show (-(n.natAbs : Int)) = n by omega] at this
    unfold itoaB
    rw [itoa_neg hn]
    exact this
  · obtain ⟨m, rfl⟩ := Int.eq_ofNat_of_zero_le (show 0 ≤ n by omega)
    have := ev_digits m (by omega)
    unfold itoaB
    rw [itoa_nn hn]
    refine Ev.step (f := fun k => (ridgewayref02_Digits.f k (m : Int)).bind fun t => some t) (fun k => ?_) (Ev.bind this (Ev.now _))
    simp only [ridgewayref05_digits.f]
    rw [if_pos (by omega)]
def refNames : List ByteArray := [(⟨#[104, 101, 97, 100, 101, 114]⟩ : ByteArray), (⟨#[111, 112, 101, 110]⟩ : ByteArray), (⟨#[117, 112, 100, 97, 116, 101]⟩ : ByteArray), (⟨#[104, 111, 108, 100]⟩ : ByteArray), (⟨#[102, 115, 109]⟩ : ByteArray), (⟨#[99, 101, 97, 115, 101]⟩ : ByteArray)]
theorem ev_refName (c s : Int) (l : List Int) (hc : i64ok c = true) (hs : i64ok s = true) : Ev (fun k => ridgewayref05_Name.f k c s l) (nameB c s) := by
  have h1 := codeName_size hc
  have h2 := itoa_len hs
  have h3 := size_itoaB s
  have h4 : (codeName c ++ (⟨#[47]⟩ : ByteArray)).size = (codeName c).size + 1 := by rw [ByteArray.size_append]; rfl
  have es := ev_itoa s hs
  by_cases hr : 1 ≤ c ∧ c ≤ 6
  · have hn : 0 ≤ wrap64 (c - 1) ∧ wrap64 (c - 1) < (refNames.length : Int) ∧ rdOf ByteArray.empty refNames (wrap64 (c - 1)) = codeName c := by
      obtain ⟨n, rfl⟩ := Int.eq_ofNat_of_zero_le (show 0 ≤ c by omega)
      have h : n = 1 ∨ n = 2 ∨ n = 3 ∨ n = 4 ∨ n = 5 ∨ n = 6 := by omega
      rcases h with rfl | rfl | rfl | rfl | rfl | rfl <;> exact ⟨by decide +kernel, by decide +kernel, by decide +kernel⟩
    obtain ⟨n1, n2, n3⟩ := hn
    have hj : Ev (fun k => ridgewayref05_Name.j0 k refNames true c s l) (nameB c s) := by
      refine Ev.step (f := fun k => (ridgewayref05_digits.f k s).bind fun t165 => (if (codeName c ++ (⟨#[47]⟩ : ByteArray)).size + t165.size ≤ 9223372036854775807 then (some ((codeName c ++ (⟨#[47]⟩ : ByteArray)) ++ t165)) else (none))) (fun k => ?_) (Ev.bind es (Ev.congr (fun k => if_pos (by omega)) (Ev.now _)))
      simp only [ridgewayref05_Name.j0]
      rw [if_pos trivial, if_pos n1, if_pos n2, n3, if_pos (by omega)]
    refine Ev.congr (fun k => ?_) hj
    unfold ridgewayref05_Name.f
    simp only [Option.bind_some]
    rw [if_pos hr.1, decide_eq_true hr.2]
    rfl
  · have ec := ev_itoa c hc
    have hcn : codeName c = itoaB c := by unfold codeName; rw [if_neg hr]
    rw [hcn] at h1 h4
    have hj : Ev (fun k => ridgewayref05_Name.j0 k refNames false c s l) (nameB c s) := by
      unfold nameB
      rw [hcn]
      refine Ev.step (f := fun k => (ridgewayref05_digits.f k c).bind fun t166 => (if t166.size + 1 ≤ 9223372036854775807 then ((ridgewayref05_digits.f k s).bind fun t167 => (if (t166 ++ (⟨#[47]⟩ : ByteArray)).size + t167.size ≤ 9223372036854775807 then (some ((t166 ++ (⟨#[47]⟩ : ByteArray)) ++ t167)) else (none))) else (none))) (fun k => ?_) (Ev.bind ec (Ev.congr (fun k => if_pos (by omega)) (Ev.bind es (Ev.congr (fun k => if_pos (by omega)) (Ev.now _)))))
      simp only [ridgewayref05_Name.j0]
      rw [if_neg (by simp)]
    refine Ev.congr (fun k => ?_) hj
    unfold ridgewayref05_Name.f
    simp only [Option.bind_some]
    by_cases h5 : c ≥ 1
    · rw [if_pos h5, decide_eq_false (by omega)]
      rfl
    · rw [if_neg h5]
      rfl
theorem sameNote_refl (a b : Int) (l : List Int) : ridgewayref03_SameNote.f a b l a b l = some true := by unfold ridgewayref03_SameNote.f; rw [if_pos rfl, if_pos rfl]; simp
theorem same_refl (a : Int) (l : List Int) : ridgewayref03_Same.f a l a l = some true := by unfold ridgewayref03_Same.f; rw [if_pos rfl]; simp
theorem ev_get (m : Int) (l : List Int) (hl : l.length ≤ 140737488351232) : Ev (fun k => note_Get.f k m l) (getB m l) := Ev.step (f := fun _ => some (getB m l)) (fun k => get_f k m l hl) (Ev.now _)
theorem ev_awake : Ev (fun k => ridgewaylaw05_awake.f k) true := Ev.step (f := fun _ => some true) (fun k => awake_f k) (Ev.now _)
theorem NoteIs : ridgewaylaw05_NoteIs.Pure := by
  intro x m c s hx hm hc hs
  refine Ev.rounds ?_
  have hml : m.f1.length ≤ 140737488351232 := by have := hm.2.2.1; omega
  have no : Ev (fun k => ridgewaylaw05_NoteIs.j0 k c s true true x.f0 x.f1 x.f2 m.f0 m.f1) true := Ev.step (f := fun _ => some true) (fun k => by simp only [ridgewaylaw05_NoteIs.j0]; rw [if_pos trivial]) (Ev.now _)
  have yes : Ev (fun k => ridgewaylaw05_NoteIs.j0 k c s true false x.f0 x.f1 x.f2 m.f0 m.f1) true := by
    have hg := ev_get m.f0 m.f1 hml
    have hn := ev_refName x.f0 x.f1 x.f2 hx.1 hx.2.1
    refine Ev.step (f := fun k => (note_Get.f k m.f0 m.f1).bind fun bt171 => (if (bt171.2.2.2 == (getB m.f0 m.f1).2.2.2) = true then ((ridgewayref03_SameNote.f bt171.1 bt171.2.1 bt171.2.2.1 (getB m.f0 m.f1).1 (getB m.f0 m.f1).2.1 (getB m.f0 m.f1).2.2.1).bind fun t185 => (if t185 = true then ((ridgewayref05_Name.f k x.f0 x.f1 x.f2).bind fun t200 => (some ((nameB x.f0 x.f1).toList == t200.toList))) else (none))) else none)) (fun k => ?_) (Ev.bind hg ?_)
    · simp only [ridgewaylaw05_NoteIs.j0, refGet_f _ _ hm.2.2.2, sane_f, refSane_f, put_f, refPut_f, known_f, refKnown_f, name_f _ _ _ hx.1 hx.2.1, Option.bind_some, same_refl, beq_self_eq_true, if_true, Bool.false_eq_true, if_false]
    · refine Ev.congr (fun k => if_pos (by simp)) ?_
      rw [sameNote_refl]
      simp only [Option.bind_some, if_true]
      refine Ev.bind hn (Ev.congr (fun k => ?_) (Ev.now _))
      simp
  refine Ev.bind ev_awake ?_
  by_cases h1 : (x.f2.length : Int) > 5000
  · exact Ev.congr (fun k => if_pos h1) no
  · refine Ev.congr (fun k => if_neg h1) ?_
    by_cases h2 : (m.f1.length : Int) > 5000
    · rw [decide_eq_true h2]; exact no
    · rw [decide_eq_false h2]; exact yes
end Go.Proofs.YtjelhhmnpodlkaaDoor.Pure
