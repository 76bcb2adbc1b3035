import Derived.Test.YtmohglifmoecnaaDoorPdLexLines
import Derived.Test.YtmohglifmoecnaaDoorPureLex
namespace Go.Proofs.YtmohglifmoecnaaDoor.Pure
open Go.RowKit Go.Proofs.YtmohglifmoecnaaDoor.PAll Go.Proofs.YtmohglifmoecnaaDoorW.PrintWords Go.Proofs.YtmohglifmoecnaaDoorW.PrintLast
set_option linter.unusedVariables false
theorem addLast_app (pre : List S32) (t : S32) (s : ByteArray) : addLast (pre ++ [t]) s = pre ++ [⟨t.f0, t.f1, t.f2 ++ s⟩] := by
  unfold addLast
  have : (pre ++ [t]).length - 1 = pre.length := by simp
  rw [this]
  simp [List.getD_eq_getElem?_getD]
/-- The same tokens, further on. -/
def shT (d : Int) (t : S32) : S32 := ⟨t.f0, t.f1 + d, t.f2⟩
def shift (pre : List S32) (d : Int) (st : LSt) : LSt := ⟨pre ++ st.out.map (shT d), st.at_ + d, st.word, st.comm⟩
theorem addLast_shift (pre l : List S32) (d : Int) (s : ByteArray) (h : l ≠ []) : addLast (pre ++ l.map (shT d)) s = pre ++ (addLast l s).map (shT d) := by
  obtain ⟨l', t, rfl⟩ : ∃ l' t, l = l' ++ [t] := ⟨l.dropLast, l.getLast h, (List.dropLast_concat_getLast h).symm⟩
  rw [addLast_app, List.map_append, List.map_append, ← List.append_assoc, ← List.append_assoc, List.map_singleton, addLast_app]
  rfl
theorem takeF_shift (pre : List S32) (d : Int) (st : LSt) (r : Int) (hok : st.Ok) : takeF (shift pre d st) r = (takeF st r).map (shift pre d) := by
  obtain ⟨out, at_, word, comm⟩ := st
  have hw := hok.word
  dsimp only at hw
  have ha : at_ + d + 1 = at_ + 1 + d := by omega
  show takeF ⟨pre ++ out.map (shT d), at_ + d, word, comm⟩ r = _
  unfold takeF
  dsimp only
  by_cases c1 : r = 10
  · rw [if_pos c1, if_pos c1, Option.map_some, ha]
    simp [shift, shT]
  · rw [if_neg c1, if_neg c1]
    by_cases c2 : comm = true ∨ r = 35
    · rw [if_pos c2, if_pos c2, Option.map_some, ha]
      rfl
    · rw [if_neg c2, if_neg c2]
      by_cases c3 : letterR r = true
      · rw [if_pos c3, if_pos c3, Option.map_some, ha]
        cases word
        · have e : pre ++ out.map (shT d) ++ [(⟨0, at_ + d, ⟨#[]⟩⟩ : S32)] = pre ++ (out ++ [(⟨0, at_, ⟨#[]⟩⟩ : S32)]).map (shT d) := by simp [shT]
          rw [if_neg (by decide), if_neg (by decide), e, addLast_shift _ _ _ _ (by simp)]
          rfl
        · have hne : out ≠ [] := by
            have := hw rfl
            intro h
            rw [h] at this
            exact absurd this (by decide)
          rw [if_pos rfl, if_pos rfl, addLast_shift _ _ _ _ hne]
          rfl
      · rw [if_neg c3, if_neg c3]
        by_cases c4 : r ≠ 32 ∧ r ≠ 9
        · rw [if_pos c4, if_pos c4, Option.map_none]
        · rw [if_neg c4, if_neg c4, Option.map_some, ha]
          rfl
theorem foldC_shift (pre : List S32) (d : Int) : ∀ (cs : List (Option Nat)) (st : LSt), st.Ok → foldC cs (shift pre d st) = match foldC cs st with
    | .error a => .error (a + d)
    | .ok st' => .ok (shift pre d st')
  | [], st, _ => rfl
  | none :: _, st, _ => rfl
  | some r :: cs, st, hok => by
    rw [foldC, foldC, takeF_shift pre d st _ hok]
    cases ht : takeF st (r : Int) with
    | none => rfl
    | some s1 => exact foldC_shift pre d cs s1 (takeF_ok hok ht).1
/-- Places lie in the text. -/
def PInv (st : LSt) : Prop := ∀ t ∈ st.out, 0 ≤ t.f1 ∧ t.f1 ≤ st.at_
theorem addLast_places {l : List S32} {s : ByteArray} {a : Int} (h : ∀ t ∈ l, 0 ≤ t.f1 ∧ t.f1 ≤ a) : ∀ t ∈ addLast l s, 0 ≤ t.f1 ∧ t.f1 ≤ a := by
  by_cases h0 : l = []
  · subst h0
    intro t ht
    cases ht
  · obtain ⟨l', u, rfl⟩ : ∃ l' t, l = l' ++ [t] := ⟨l.dropLast, l.getLast h0, (List.dropLast_concat_getLast h0).symm⟩
    rw [addLast_app]
    intro t ht
    rcases List.mem_append.1 ht with ht | ht
    · exact h t (List.mem_append_left _ ht)
    · rw [List.mem_singleton.1 ht]
      exact h u (by simp)
theorem takeF_places {st st' : LSt} {r : Int} (hok : st.Ok) (h : PInv st) (ht : takeF st r = some st') : PInv st' := by
  have h0 := hok.a0
  have hs := (takeF_ok hok ht).2
  have old : ∀ t ∈ st.out, 0 ≤ t.f1 ∧ t.f1 ≤ st'.at_ := by
    intro t hm
    have := h t hm
    omega
  have new : ∀ x : S32, x.f1 = st.at_ → ∀ t ∈ st.out ++ [x], 0 ≤ t.f1 ∧ t.f1 ≤ st'.at_ := by
    intro x hx t hm
    rcases List.mem_append.1 hm with hm | hm
    · exact old t hm
    · rw [List.mem_singleton.1 hm, hx]
      omega
  unfold PInv
  unfold takeF at ht
  by_cases c1 : r = 10
  · rw [if_pos c1] at ht
    obtain rfl := Option.some.inj ht
    exact new _ rfl
  · rw [if_neg c1] at ht
    by_cases c2 : st.comm = true ∨ r = 35
    · rw [if_pos c2] at ht
      obtain rfl := Option.some.inj ht
      exact old
    · rw [if_neg c2] at ht
      by_cases c3 : letterR r = true
      · rw [if_pos c3] at ht
        obtain rfl := Option.some.inj ht
        refine addLast_places ?_
        split
        · exact old
        · exact new _ rfl
      · rw [if_neg c3] at ht
        by_cases c4 : r ≠ 32 ∧ r ≠ 9
        · rw [if_pos c4] at ht
          cases ht
        · rw [if_neg c4] at ht
          obtain rfl := Option.some.inj ht
          exact old
theorem foldC_places : ∀ (cs : List (Option Nat)) (st st' : LSt), st.Ok → PInv st → foldC cs st = .ok st' → PInv st'
  | [], st, st', _, hp, h => by
    cases h
    exact hp
  | none :: _, st, st', _, _, h => by cases h
  | some r :: cs, st, st', hok, hp, h => by
    rw [foldC] at h
    cases ht : takeF st (r : Int) with
    | none =>
      rw [ht] at h
      cases h
    | some s1 =>
      rw [ht] at h
      exact foldC_places cs s1 st' (takeF_ok hok ht).1 (takeF_places hok hp ht) h
theorem rd_q (xs : List S32) (j : Nat) : rd_T32 xs (j : Int) = (xs[j]?).getD z32 := by
  unfold rd_T32
  rw [Int.toNat_natCast, List.getD_eq_getElem?_getD]
theorem lines_loop (A B : List S32) (n : Int) (E : S32) (hA : A.length ≤ 10000) (hB : B.length ≤ 10000) (hn : 0 ≤ n ∧ n ≤ 10000) (hp : ∀ t ∈ B, 0 ≤ t.f1 ∧ t.f1 ≤ 10000) : ∀ (m j : Nat), j ≤ A.length + 1 + B.length → A.length + 1 + B.length - j ≤ m →
    ridgewaylaw11_LexLines.l0 (2 * m + 1) true (A ++ [E]) n B ((A ++ [⟨1, n, ⟨#[]⟩⟩]) ++ B.map (shT (n + 1))) (j : Int) = some true
  | m, j, hj, hm => by
    have hL : ((A ++ [(⟨1, n, ⟨#[]⟩⟩ : S32)]) ++ B.map (shT (n + 1))).length = A.length + 1 + B.length := by simp; omega
    have hl : (A ++ [E]).length = A.length + 1 := by simp
    rw [ridgewaylaw11_LexLines.l0, hL, hl]
    by_cases hi : j < A.length + 1 + B.length
    · obtain ⟨m, rfl⟩ : ∃ x, m = x + 1 := ⟨m - 1, by omega⟩
      have hw : wrap64 ((j : Int) + 1) = ((j + 1 : Nat) : Int) := by unfold wrap64; omega
      have hwl : wrap64 (((A.length + 1 : Nat) : Int) - 1) = (A.length : Int) := by unfold wrap64; omega
      have next := lines_loop A B n E hA hB hn hp m (j + 1) (by omega) (by omega)
      have j4f : ridgewaylaw11_LexLines.j4 (2 * m + 2) true (A ++ [E]) n B ((A ++ [⟨1, n, ⟨#[]⟩⟩]) ++ B.map (shT (n + 1))) (j : Int) false = some true := by
        rw [ridgewaylaw11_LexLines.j4, if_neg (by decide), hL, hl, hw]
        by_cases hge : (j : Int) ≥ ((A.length + 1 : Nat) : Int)
        · obtain ⟨q, rfl⟩ : ∃ q, j = A.length + 1 + q := ⟨j - (A.length + 1), by omega⟩
          have hwq : wrap64 (((A.length + 1 + q : Nat) : Int) - ((A.length + 1 : Nat) : Int)) = (q : Int) := by unfold wrap64; omega
          have hq : q < B.length := by omega
          have hbq := hp B[q] (List.getElem_mem hq)
          have r1 : rd_T32 B (q : Int) = B[q] := rd_at32 hq
          have r2 : rd_T32 ((A ++ [(⟨1, n, ⟨#[]⟩⟩ : S32)]) ++ B.map (shT (n + 1))) ((A.length + 1 + q : Nat) : Int) = shT (n + 1) B[q] := by
            rw [rd_q, List.getElem?_append_right (by simp)]
            simp [hq]
          have hwf : wrap64 (wrap64 (B[q].f1 + n) + 1) = B[q].f1 + (n + 1) := by unfold wrap64; omega
          rw [if_pos hge, hwq, if_pos (by omega), if_pos (by omega), if_pos (by omega), if_pos (by omega), r1, r2, if_neg (by rw [hwf]; simp [shT])]
          exact next
        · rw [if_neg hge]
          exact next
      rw [if_pos (by omega), hwl]
      by_cases h1 : (j : Int) < (A.length : Int)
      · have hjA : j < A.length := by omega
        have r1 : rd_T32 (A ++ [E]) (j : Int) = A[j] := by
          rw [rd_q, List.getElem?_append_left hjA, List.getElem?_eq_getElem hjA]
          rfl
        have r2 : rd_T32 ((A ++ [(⟨1, n, ⟨#[]⟩⟩ : S32)]) ++ B.map (shT (n + 1))) (j : Int) = A[j] := by
          rw [rd_q, List.append_assoc, List.getElem?_append_left hjA, List.getElem?_eq_getElem hjA]
          rfl
        rw [if_pos h1, if_pos (by omega), if_pos (by omega), r1, r2, if_neg (by simp), if_neg (by omega)]
        exact j4f
      · rw [if_neg h1]
        by_cases h2 : (j : Int) = (A.length : Int)
        · have r2 : rd_T32 ((A ++ [(⟨1, n, ⟨#[]⟩⟩ : S32)]) ++ B.map (shT (n + 1))) (j : Int) = ⟨1, n, ⟨#[]⟩⟩ := by
            rw [rd_q, List.append_assoc, List.getElem?_append_right (by omega), show j - A.length = 0 by omega]
            rfl
          rw [if_pos h2, if_pos (by omega), r2, if_pos rfl, show (n != n) = false by simp]
          exact j4f
        · rw [if_neg h2]
          exact j4f
    · rw [if_neg (by omega)]

/-- YOURS: def ridgewaylaw11_LexLines.Pure : Prop := ∀ (x0 : ByteArray) (x1 : ByteArray), g9 x0 → g9 x1 → ∃ k, ridgewaylaw11_LexLines.f k x0 x1 = some true -/
theorem LexLines : ridgewaylaw11_LexLines.Pure := by
  intro s t _ _
  refine ⟨2 * 10000 + 4, ?_⟩
  unfold ridgewaylaw11_LexLines.f
  rw [awake_true]
  simp only [Option.bind_some]
  have j0t : ridgewaylaw11_LexLines.j0 (2 * 10000 + 4) s t true true = some true := by rw [ridgewaylaw11_LexLines.j0, if_pos rfl]
  by_cases h1 : (s.size : Int) > 1000
  · rw [if_pos h1, j0t]
  · rw [if_neg h1]
    by_cases h2 : (t.size : Int) > 1000
    · rw [decide_eq_true h2, j0t]
    · rw [decide_eq_false h2, ridgewaylaw11_LexLines.j0, if_neg (by decide)]
      have e0 : lex_All.f s = some (told (foldC (chars s.data.toList) st0)) := congrArg some (lexF_eq s (by omega))
      have e1 : lex_All.f t = some (told (foldC (chars t.data.toList) st0)) := congrArg some (lexF_eq t (by omega))
      have e2 := lexF_eq ((s ++ (⟨#[10]⟩ : ByteArray)) ++ t) (by rw [ByteArray.size_append, ByteArray.size_append, show (⟨#[10]⟩ : ByteArray).size = 1 from rfl]; omega)
      have l2 : ((s ++ (⟨#[10]⟩ : ByteArray)) ++ t).data.toList = s.data.toList ++ 10 :: t.data.toList := by simp
      rw [l2, chars_app 10 _ (by decide) _ _ (Nat.le_refl _), chars_ascii 10 _ (by decide), foldC_app] at e2
      have hln := chars_length _ s.data.toList (Nat.le_refl _)
      have hlt := chars_length _ t.data.toList (Nat.le_refl _)
      rw [size_list] at hln hlt
      have z0 : st0.at_ = 0 := rfl
      have tk : ∀ st, told (.ok st) = (st.out ++ [⟨2, st.at_, ⟨#[]⟩⟩], st.at_, 0) := fun _ => rfl
      have te : ∀ a, told (.error a) = (([] : List S32), a, 5) := fun _ => rfl
      rw [e0, e1, show lex_All.f ((s ++ (⟨#[10]⟩ : ByteArray)) ++ t) = some (lexF ((s ++ (⟨#[10]⟩ : ByteArray)) ++ t)) from rfl, e2]
      simp only [Option.bind_some]
      rw [if_pos (by omega), if_pos (by omega)]
      cases hf : foldC (chars s.data.toList) st0 with
      | error a =>
        simp only [te]
        rw [if_neg (by decide), ridgewaylaw11_LexLines.j1, if_pos rfl, if_pos rfl, if_neg (by decide), if_pos rfl, if_pos rfl]
      | ok st =>
        have hok := foldC_ok _ _ _ st0_ok hf
        have hlen := hok.1.len
        have ha0 := hok.1.a0
        have h2_ := hok.2
        have w1 : wrap64 (st.at_ + 1) = st.at_ + 1 := by unfold wrap64; omega
        have tl : foldC (some ((10 : UInt8).toNat) :: chars t.data.toList) st = foldC (chars t.data.toList) (shift (st.out ++ [⟨1, st.at_, ⟨#[]⟩⟩]) (st.at_ + 1) st0) := by
          rw [foldC, show takeF st (((10 : UInt8).toNat : Nat) : Int) = some ⟨st.out ++ [⟨1, st.at_, ⟨#[]⟩⟩], st.at_ + 1, false, false⟩ from if_pos rfl]
          dsimp only
          congr 1
          unfold shift
          rw [z0, Int.zero_add]
          simp [st0]
        have fs := foldC_shift (st.out ++ [⟨1, st.at_, ⟨#[]⟩⟩]) (st.at_ + 1) (chars t.data.toList) st0 st0_ok
        simp only [tl, fs]
        cases hg : foldC (chars t.data.toList) st0 with
        | error a =>
          have hr := foldC_err _ _ _ st0_ok hg
          have w2 : wrap64 (st.at_ + 1 + a) = st.at_ + 1 + a := by unfold wrap64; omega
          simp only [tk, te]
          rw [if_pos trivial, show ((5 : Int) != 0) = true from rfl, ridgewaylaw11_LexLines.j1, if_pos rfl, if_pos rfl, if_pos rfl, if_pos rfl, w1, w2]
          simp
          omega
        | ok st2 =>
          have hok2 := foldC_ok _ _ _ st0_ok hg
          have hlen2 := hok2.1.len
          have ha2 := hok2.1.a0
          have h3_ := hok2.2
          have hpl := foldC_places _ _ _ st0_ok (fun t ht => by cases ht) hg
          have w2 : wrap64 (st.at_ + 1 + st2.at_) = st.at_ + 1 + st2.at_ := by unfold wrap64; omega
          have hc : (shift (st.out ++ [⟨1, st.at_, ⟨#[]⟩⟩]) (st.at_ + 1) st2).out ++ [⟨2, (shift (st.out ++ [⟨1, st.at_, ⟨#[]⟩⟩]) (st.at_ + 1) st2).at_, ⟨#[]⟩⟩] = (st.out ++ [⟨1, st.at_, ⟨#[]⟩⟩]) ++ (st2.out ++ [(⟨2, st2.at_, ⟨#[]⟩⟩ : S32)]).map (shT (st.at_ + 1)) := by
            simp [shift, shT]
          have hcat : (shift (st.out ++ [⟨1, st.at_, ⟨#[]⟩⟩]) (st.at_ + 1) st2).at_ = st.at_ + 1 + st2.at_ := by
            unfold shift
            dsimp only
            omega
          simp only [tk]
          rw [hc, hcat, if_pos trivial, show ((0 : Int) != 0) = false from rfl, ridgewaylaw11_LexLines.j1, if_neg (by decide), if_pos rfl, w1, w2, if_pos rfl]
          have hlc : ((((st.out ++ [(⟨1, st.at_, ⟨#[]⟩⟩ : S32)]) ++ (st2.out ++ [(⟨2, st2.at_, ⟨#[]⟩⟩ : S32)]).map (shT (st.at_ + 1))).length : Nat) : Int) = wrap64 (((st.out ++ [(⟨2, st.at_, ⟨#[]⟩⟩ : S32)]).length : Int) + ((st2.out ++ [(⟨2, st2.at_, ⟨#[]⟩⟩ : S32)]).length : Int)) := by
            simp only [List.length_append, List.length_map, List.length_singleton]
            unfold wrap64
            omega
          rw [if_pos hlc, ridgewaylaw11_LexLines.j2, if_neg (by simp; omega)]
          refine lines_loop st.out (st2.out ++ [⟨2, st2.at_, ⟨#[]⟩⟩]) st.at_ ⟨2, st.at_, ⟨#[]⟩⟩ (by omega) (by rw [List.length_append, List.length_singleton]; omega) ⟨ha0, by omega⟩ ?_ 10000 0 (by omega) (by rw [List.length_append, List.length_singleton]; omega)
          intro x hx
          rcases List.mem_append.1 hx with hx | hx
          · have := hpl x hx
            omega
          · rw [List.mem_singleton.1 hx]
            dsimp only
            omega

end Go.Proofs.YtmohglifmoecnaaDoor.Pure
