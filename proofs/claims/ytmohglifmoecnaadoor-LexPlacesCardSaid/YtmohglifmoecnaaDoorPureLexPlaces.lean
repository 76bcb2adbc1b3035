import Derived.Test.YtmohglifmoecnaaDoorPdLexPlaces
import Derived.Test.YtmohglifmoecnaaDoorPureLexP
namespace Go.Proofs.YtmohglifmoecnaaDoor.Pure
open Go.RowKit Go.Proofs.YtmohglifmoecnaaDoor.PPla Go.Proofs.YtmohglifmoecnaaDoorW.PrintWords Go.Proofs.YtmohglifmoecnaaDoorW.PrintLast
set_option linter.unusedVariables false
theorem letter_range {r : Int} (h : letterR r = true) : 45 ≤ r ∧ r ≤ 122 := by
  unfold letterR at h
  rw [decide_eq_true_iff] at h
  omega
theorem letter_enc {r : Int} (h : letterR r = true) : Utf8.encode r = ⟨#[UInt8.ofNat r.toNat]⟩ := by
  have := letter_range h
  have hv : Utf8.valid r = true := by
    unfold Utf8.valid
    simp
    omega
  unfold Utf8.encode
  dsimp only
  rw [if_pos hv, if_pos (by omega)]
theorem addLast_app (pre : List S32) (t : S32) (s : ByteArray) : addLast (pre ++ [t]) s = pre ++ [⟨t.f0, t.f1, t.f2 ++ s⟩] := by
  unfold addLast
  have : (pre ++ [t]).length - 1 = pre.length := by simp
  rw [this]
  simp [List.getD_eq_getElem?_getD]
theorem bt_list (s : ByteArray) (q : Nat) : bt s (q : Int) = (((s.data.toList[q]?).getD 0).toNat : Int) := by
  unfold bt
  by_cases h : q < s.size
  · rw [dif_pos (by simpa using h)]
    have h2 : q < s.data.toList.length := by rw [size_list]; exact h
    rw [List.getElem?_eq_getElem h2]
    rfl
  · rw [dif_neg (by simpa using h), List.getElem?_eq_none (by rw [size_list]; omega)]
    rfl
/-- What a word, or a line, tells of the characters. -/
def TokP (pre : List (Option Nat)) (t : S32) : Prop :=
  (t.f0 = 0 ∧ 0 ≤ t.f1 ∧ 1 ≤ t.f2.size ∧ t.f1 + t.f2.size ≤ pre.length ∧ ∀ q : Nat, q < t.f2.size → ∃ r : Nat, pre[t.f1.toNat + q]? = some (some r) ∧ (r : Int) = bt t.f2 (q : Int) ∧ r ≠ 10) ∨
  (t.f0 = 1 ∧ 0 ≤ t.f1 ∧ t.f1 < pre.length ∧ pre[t.f1.toNat]? = some (some 10) ∧ t.f2.size = 0)
def endT (t : S32) : Int := if t.f0 = 0 then t.f1 + t.f2.size else t.f1 + 1
structure Inv2 (pre : List (Option Nat)) (st : LSt) : Prop where
  at_ : st.at_ = pre.length
  tok : ∀ t ∈ st.out, TokP pre t
  pw : st.out.Pairwise (fun t u => endT t ≤ u.f1)
  cov : ∀ j : Nat, pre[j]? = some (some 10) → ∃ t ∈ st.out, t.f0 = 1 ∧ t.f1 = (j : Int)
  word : st.word = true → ∃ p t, st.out = p ++ [t] ∧ t.f0 = 0 ∧ t.f1 + (t.f2.size : Int) = (pre.length : Int)
theorem get_ext {pre : List (Option Nat)} {j : Nat} {x y : Option Nat} (h : pre[j]? = some x) : (pre ++ [y])[j]? = some x := by
  obtain ⟨hl, he⟩ := List.getElem?_eq_some_iff.1 h
  rw [List.getElem?_append_left hl, h]
theorem TokP.ext {pre : List (Option Nat)} {t : S32} (h : TokP pre t) (y : Option Nat) : TokP (pre ++ [y]) t := by
  have hl : (pre ++ [y]).length = pre.length + 1 := by simp
  rcases h with ⟨h0, h1, h2, h3, h4⟩ | ⟨h0, h1, h2, h3, h5⟩
  · refine .inl ⟨h0, h1, h2, by rw [hl]; omega, ?_⟩
    intro q hq
    obtain ⟨r, e1, e2⟩ := h4 q hq
    exact ⟨r, get_ext e1, e2⟩
  · exact .inr ⟨h0, h1, by rw [hl]; omega, get_ext h3, h5⟩
theorem TokP.end_le {pre : List (Option Nat)} {t : S32} (h : TokP pre t) : endT t ≤ pre.length := by
  unfold endT
  rcases h with ⟨h0, h1, h2, h3, h4⟩ | ⟨h0, h1, h2, h3, h5⟩
  · rw [if_pos h0]
    exact h3
  · rw [if_neg (by omega)]
    omega
theorem cov_ext {pre : List (Option Nat)} {r : Nat} {j : Nat} (h : (pre ++ [some r])[j]? = some (some 10)) : pre[j]? = some (some 10) ∨ j = pre.length ∧ r = 10 := by
  by_cases hj : j < pre.length
  · rw [List.getElem?_append_left hj] at h
    exact .inl h
  · rw [List.getElem?_append_right (by omega)] at h
    by_cases h0 : j - pre.length = 0
    · rw [h0] at h
      simp at h
      exact .inr ⟨by omega, h⟩
    · rw [List.getElem?_eq_none (by simp; omega)] at h
      cases h
theorem pw_snoc {l : List S32} {x : S32} (h : l.Pairwise (fun t u => endT t ≤ u.f1)) (hx : ∀ t ∈ l, endT t ≤ x.f1) : (l ++ [x]).Pairwise (fun t u => endT t ≤ u.f1) := by
  rw [List.pairwise_append]
  refine ⟨h, List.pairwise_singleton _ _, ?_⟩
  intro a ha b hb
  rw [List.mem_singleton.1 hb]
  exact hx a ha
theorem takeF_inv2 {pre : List (Option Nat)} {st st' : LSt} {r : Nat} (h : Inv2 pre st) (ht : takeF st (r : Int) = some st') : Inv2 (pre ++ [some r]) st' := by
  obtain ⟨h1, h2, h3, h4, h5⟩ := h
  have hl : (pre ++ [some r]).length = pre.length + 1 := by simp
  have hr : (pre ++ [some r])[pre.length]? = some (some r) := by simp
  have hend : ∀ t ∈ st.out, endT t ≤ st.at_ := fun t hm => by
    have := (h2 t hm).end_le
    omega
  have old : ∀ t ∈ st.out, TokP (pre ++ [some r]) t := fun t hm => (h2 t hm).ext _
  have hto : st.at_.toNat = pre.length := by omega
  unfold takeF at ht
  by_cases c1 : (r : Int) = 10
  · rw [if_pos c1] at ht
    obtain rfl := Option.some.inj ht
    obtain rfl : r = 10 := by omega
    refine ⟨by rw [hl]; dsimp only; omega, ?_, pw_snoc h3 hend, ?_, (fun h => by cases h)⟩
    · intro t hm
      rcases List.mem_append.1 hm with hm | hm
      · exact old t hm
      · rw [List.mem_singleton.1 hm]
        exact .inr ⟨rfl, by dsimp only; omega, by rw [hl]; dsimp only; omega, by dsimp only; rw [hto]; exact hr, rfl⟩
    · intro j hj
      rcases cov_ext hj with hj | ⟨hj, _⟩
      · obtain ⟨t, hm, e⟩ := h4 j hj
        exact ⟨t, List.mem_append_left _ hm, e⟩
      · exact ⟨⟨1, st.at_, ⟨#[]⟩⟩, by simp, rfl, by dsimp only; omega⟩
  · rw [if_neg c1] at ht
    have hcov : ∀ j : Nat, (pre ++ [some r])[j]? = some (some 10) → ∃ t ∈ st.out, t.f0 = 1 ∧ t.f1 = (j : Int) := by
      intro j hj
      rcases cov_ext hj with hj | ⟨_, hj⟩
      · exact h4 j hj
      · omega
    by_cases c2 : st.comm = true ∨ (r : Int) = 35
    · rw [if_pos c2] at ht
      obtain rfl := Option.some.inj ht
      exact ⟨by rw [hl]; dsimp only; omega, old, h3, hcov, fun h => by cases h⟩
    · rw [if_neg c2] at ht
      by_cases c3 : letterR (r : Int) = true
      · rw [if_pos c3] at ht
        obtain rfl := Option.some.inj ht
        have hrr := letter_range c3
        have hbr : ((UInt8.ofNat ((r : Int)).toNat).toNat : Int) = (r : Int) := by
          rw [UInt8.toNat_ofNat', Nat.mod_eq_of_lt (by omega)]
          omega
        rw [letter_enc c3]
        have one : ∀ S : ByteArray, (S ++ (⟨#[UInt8.ofNat ((r : Int)).toNat]⟩ : ByteArray)).size = S.size + 1 := fun S => by
          rw [ByteArray.size_append]
          rfl
        have btl : ∀ S : ByteArray, bt (S ++ (⟨#[UInt8.ofNat ((r : Int)).toNat]⟩ : ByteArray)) ((S.size : Nat) : Int) = (r : Int) := by
          intro S
          rw [bt_list]
          have : (S ++ (⟨#[UInt8.ofNat ((r : Int)).toNat]⟩ : ByteArray)).data.toList = S.data.toList ++ [UInt8.ofNat ((r : Int)).toNat] := by simp
          rw [this, List.getElem?_append_right (by rw [size_list]; exact Nat.le_refl _), size_list, Nat.sub_self]
          exact hbr
        have btf : ∀ (S : ByteArray) (q : Nat), q < S.size → bt (S ++ (⟨#[UInt8.ofNat ((r : Int)).toNat]⟩ : ByteArray)) (q : Int) = bt S (q : Int) := by
          intro S q hq
          rw [bt_list, bt_list]
          have : (S ++ (⟨#[UInt8.ofNat ((r : Int)).toNat]⟩ : ByteArray)).data.toList = S.data.toList ++ [UInt8.ofNat ((r : Int)).toNat] := by simp
          rw [this, List.getElem?_append_left (by rw [size_list]; exact hq)]
        cases hw : st.word
        · rw [if_neg (by decide), addLast_app]
          have z : ((⟨#[]⟩ : ByteArray) ++ (⟨#[UInt8.ofNat ((r : Int)).toNat]⟩ : ByteArray)).size = 1 := by rw [one]; rfl
          refine ⟨by rw [hl]; dsimp only; omega, ?_, pw_snoc h3 hend, ?_, fun _ => ⟨_, _, rfl, rfl, by dsimp only; rw [z, hl]; omega⟩⟩
          · intro t hm
            rcases List.mem_append.1 hm with hm | hm
            · exact old t hm
            · rw [List.mem_singleton.1 hm]
              refine .inl ⟨rfl, by dsimp only; omega, by dsimp only; omega, by dsimp only; rw [z, hl]; omega, ?_⟩
              intro q hq
              dsimp only at hq ⊢
              obtain rfl : q = 0 := by omega
              refine ⟨r, by rw [hto]; exact hr, ?_, by omega⟩
              exact (btl ⟨#[]⟩).symm
          · intro j hj
            obtain ⟨t, hm, e⟩ := hcov j hj
            exact ⟨t, List.mem_append_left _ hm, e⟩
        · obtain ⟨p, t, ho, h0, he⟩ := h5 hw
          rw [if_pos rfl]
          rw [ho] at h2 h3 hend hcov old ⊢
          rw [addLast_app]
          rw [List.pairwise_append] at h3
          have h6 : ∀ u ∈ p, endT u ≤ t.f1 := fun u hu => h3.2.2 u hu t (by simp)
          have htk : TokP pre t := h2 t (by simp)
          refine ⟨by rw [hl]; dsimp only; omega, ?_, pw_snoc h3.1 h6, ?_, fun _ => ⟨_, _, rfl, h0, by dsimp only; rw [one, hl]; omega⟩⟩
          · intro u hm
            rcases List.mem_append.1 hm with hm | hm
            · exact old u (List.mem_append_left _ hm)
            · rw [List.mem_singleton.1 hm]
              rcases htk with ⟨_, k1, k2, k3, k4⟩ | ⟨k0, _⟩
              · refine .inl ⟨h0, k1, by dsimp only; rw [one]; omega, by dsimp only; rw [one, hl]; omega, ?_⟩
                intro q hq
                dsimp only at hq ⊢
                rw [one] at hq
                by_cases hq2 : q < t.f2.size
                · obtain ⟨x, e1, e2, e3⟩ := k4 q hq2
                  exact ⟨x, get_ext e1, by rw [btf _ _ hq2]; exact e2, e3⟩
                · obtain rfl : q = t.f2.size := by omega
                  refine ⟨r, by rw [show t.f1.toNat + t.f2.size = pre.length by omega]; exact hr, (btl _).symm, by omega⟩
              · omega
          · intro j hj
            obtain ⟨u, hm, e1, e2⟩ := hcov j hj
            rcases List.mem_append.1 hm with hm | hm
            · exact ⟨u, List.mem_append_left _ hm, e1, e2⟩
            · rw [List.mem_singleton.1 hm] at e1
              omega
      · rw [if_neg c3] at ht
        by_cases c4 : (r : Int) ≠ 32 ∧ (r : Int) ≠ 9
        · rw [if_pos c4] at ht
          cases ht
        · rw [if_neg c4] at ht
          obtain rfl := Option.some.inj ht
          exact ⟨by rw [hl]; dsimp only; omega, old, h3, hcov, fun h => by cases h⟩
theorem foldC_inv2 : ∀ (cs pre : List (Option Nat)) (st st' : LSt), Inv2 pre st → foldC cs st = .ok st' → Inv2 (pre ++ cs) st' ∧ ∀ x ∈ cs, ∃ r : Nat, x = some r
  | [], pre, st, st', hok, h => by
    cases h
    rw [List.append_nil]
    exact ⟨hok, fun x hx => by cases hx⟩
  | none :: _, pre, st, st', hok, h => by cases h
  | some r :: cs, pre, st, st', hok, h => by
    rw [foldC] at h
    cases ht : takeF st (r : Int) with
    | none =>
      rw [ht] at h
      cases h
    | some s1 =>
      rw [ht] at h
      obtain ⟨i1, i2⟩ := foldC_inv2 cs (pre ++ [some r]) s1 st' (takeF_inv2 hok ht) h
      refine ⟨by rw [List.append_assoc] at i1; exact i1, ?_⟩
      intro x hx
      rcases List.mem_cons.1 hx with hx | hx
      · exact ⟨r, hx⟩
      · exact i2 x hx
/-- The place k lies behind the token. -/
def Past (k : Int) (t : S32) : Prop := t.f1 < k ∧ (t.f0 ≠ 0 ∨ t.f1 + t.f2.size ≤ k)
instance (k : Int) (t : S32) : Decidable (Past k t) := inferInstanceAs (Decidable (_ ∧ _))
def Small (t : S32) : Prop := 0 ≤ t.f1 ∧ t.f1 ≤ 10000 ∧ t.f2.size ≤ 10000
theorem adv (s : ByteArray) (l : List S32) (n0 k r x27 : Int) (hl : l.length ≤ 10000) (hs : ∀ t ∈ l, Small t) : ∀ (m i F : Nat), l.length - i ≤ m → i ≤ l.length → m + 1 ≤ F → (∀ j (hj : j < l.length), j < i → Past k l[j]) →
    ∃ i' F', i' ≤ l.length ∧ (∀ j (hj : j < l.length), j < i' → Past k l[j]) ∧ (∀ hi : i' < l.length, ¬ Past k l[i']) ∧ F ≤ F' + m + 1 ∧ ridgewaylaw11_LexPlaces.l1 F s true l n0 k (i : Int) r x27 = ridgewaylaw11_LexPlaces.j2 F' s true l n0 k (i' : Int) r x27
  | m, i, F, hm, hi, hF, hp => by
    obtain ⟨F, rfl⟩ : ∃ G, F = G + 1 := ⟨F - 1, by omega⟩
    by_cases hlt : i < l.length
    · have e : rd_T32 l (i : Int) = l[i] := rd_at32 hlt
      obtain ⟨b1, b2, b3⟩ := hs l[i] (List.getElem_mem hlt)
      have hw : wrap64 (l[i].f1 + (l[i].f2.size : Int)) = l[i].f1 + (l[i].f2.size : Int) := by unfold wrap64; omega
      have hw1 : wrap64 ((i : Int) + 1) = ((i + 1 : Nat) : Int) := by unfold wrap64; omega
      by_cases hP : Past k l[i]
      · obtain ⟨m, rfl⟩ : ∃ x, m = x + 1 := ⟨m - 1, by omega⟩
        obtain ⟨i', F', h1, h2, h3, h4, h5⟩ := adv s l n0 k r x27 hl hs m (i + 1) F (by omega) (by omega) (by omega) (fun j hj hji => by
          by_cases hjj : j = i
          · subst hjj
            exact hP
          · exact hp j hj (by omega))
        refine ⟨i', F', h1, h2, h3, by omega, ?_⟩
        rw [ridgewaylaw11_LexPlaces.l1, if_pos (by omega), if_pos (by omega), e, if_pos hP.1, hw, hw1]
        by_cases h0 : l[i].f0 = 0
        · rw [if_pos h0, if_pos (hP.2.resolve_left (fun h => h h0))]
          exact h5
        · rw [if_neg h0]
          exact h5
      · refine ⟨i, F, hi, hp, fun _ => hP, by omega, ?_⟩
        rw [ridgewaylaw11_LexPlaces.l1, if_pos (by omega), if_pos (by omega), e, hw]
        by_cases h1 : l[i].f1 < k
        · rw [if_pos h1]
          by_cases h0 : l[i].f0 = 0
          · rw [if_pos h0, if_neg (fun h => hP ⟨h1, .inr h⟩)]
          · exact absurd ⟨h1, .inl h0⟩ hP
        · rw [if_neg h1]
    · refine ⟨i, F, hi, hp, fun h => absurd h hlt, by omega, ?_⟩
      rw [ridgewaylaw11_LexPlaces.l1, if_neg (by omega)]
/-- The law's look at one character. -/
theorem look (s : ByteArray) (l : List S32) (n0 : Int) (cs : List (Option Nat)) (hl : l.length ≤ 10000) (hs : ∀ t ∈ l, Small t) (k i r F : Nat) (x27 : Int) (hc : cs.length ≤ 10000) (hk : cs[k]? = some (some r)) (hr : r ≤ 1114111) (hi : i < l.length)
    (A : List S32) (E : S32) (hA : l = A ++ [E]) (hE : E.f0 = 2) (hEa : E.f1 = cs.length) (tok : ∀ t ∈ A, TokP cs t) (pw : A.Pairwise (fun t u => endT t ≤ u.f1)) (cov : ∀ j : Nat, cs[j]? = some (some 10) → ∃ t ∈ A, t.f0 = 1 ∧ t.f1 = (j : Int))
    (hp : ∀ j (hj : j < l.length), j < i → Past k l[j]) (hn : ¬ Past k l[i]) :
    ridgewaylaw11_LexPlaces.j2 (F + 1) s true l n0 (k : Int) (i : Int) (r : Int) x27 = ridgewaylaw11_LexPlaces.l0 F s true l n0 ((k + 1 : Nat) : Int) (i : Int) x27 := by
  have e : rd_T32 l (i : Int) = l[i] := rd_at32 hi
  obtain ⟨b1, b2, b3⟩ := hs l[i] (List.getElem_mem hi)
  have hkl : k < cs.length := (List.getElem?_eq_some_iff.1 hk).1
  have hw1 : wrap64 ((k : Int) + 1) = ((k + 1 : Nat) : Int) := by unfold wrap64; omega
  -- what the token is
  have hti : (l[i] ∈ A) ∨ l[i] = E := by
    have hall : ∀ x ∈ l, x ∈ A ∨ x = E := by
      rw [hA]
      intro x hx
      rcases List.mem_append.1 hx with h | h
      · exact .inl h
      · exact .inr (List.mem_singleton.1 h)
    exact hall _ (List.getElem_mem hi)
  rw [ridgewaylaw11_LexPlaces.j2, if_neg (by omega), if_pos (by omega), if_pos (by omega), e, hw1]
  -- the line feeds
  have hline : ((r : Int) == 10) = (decide (l[i].f0 = 1) && (l[i].f1 == (k : Int))) := by
    by_cases h10 : r = 10
    · subst h10
      obtain ⟨t, hm, t0, t1⟩ := cov k hk
      obtain ⟨j, hj, hje⟩ := List.mem_iff_getElem.1 hm
      have hjl : j < l.length := by rw [hA, List.length_append]; omega
      have hlj : l[j] = t := by
        have : l[j]? = some t := by rw [hA, List.getElem?_append_left hj, List.getElem?_eq_getElem hj, hje]
        rw [List.getElem?_eq_getElem hjl] at this
        exact Option.some.inj this
      have hij : i ≤ j := by
        by_cases hji : j < i
        · have := hp j hjl hji
          rw [hlj] at this
          have := this.1
          omega
        · omega
      have hiA : i < A.length := by omega
      have hlA : l[i] = A[i] := by
        have : l[i]? = some A[i] := by rw [hA, List.getElem?_append_left hiA, List.getElem?_eq_getElem hiA]
        rw [List.getElem?_eq_getElem hi] at this
        exact Option.some.inj this
      have hij2 : i = j := by
        by_cases h : i = j
        · exact h
        · exfalso
          have hpw := List.pairwise_iff_getElem.1 pw i j hiA hj (by omega)
          rw [hje, ← hlA] at hpw
          have hto := tok A[i] (List.getElem_mem hiA)
          rw [← hlA] at hto
          apply hn
          unfold endT at hpw
          rcases hto with ⟨k0, k1, k2, k3, k4⟩ | ⟨k0, k1, k2, k3⟩
          · rw [if_pos k0] at hpw
            exact ⟨by omega, .inr (by omega)⟩
          · rw [if_neg (by omega)] at hpw
            exact ⟨by omega, .inl (by omega)⟩
      subst hij2
      rw [hlj, t0, t1]
      simp
    · have h1 : ((r : Int) == 10) = false := by rw [beq_eq_false_iff_ne]; omega
      rw [h1]
      by_cases k0 : l[i].f0 = 1
      · rw [decide_eq_true k0, Bool.true_and]
        symm
        rw [beq_eq_false_iff_ne]
        intro h2
        rcases hti with hti | hti
        · rcases tok _ hti with ⟨k1, _⟩ | ⟨_, k1, k2, k3, _⟩
          · omega
          · rw [h2, Int.toNat_natCast, hk] at k3
            injection k3 with k3
            injection k3 with k3
            exact h10 k3
        · rw [hti, hE] at k0
          omega
      · rw [decide_eq_false k0]
        rfl
  have fin1 : (if l[i].f0 = 1 then (if (((r : Int) == 10) != (l[i].f1 == (k : Int))) = true then (none : Option Bool) else ridgewaylaw11_LexPlaces.l0 F s true l n0 ((k + 1 : Nat) : Int) (i : Int) x27) else (if (((r : Int) == 10) != false) = true then none else ridgewaylaw11_LexPlaces.l0 F s true l n0 ((k + 1 : Nat) : Int) (i : Int) x27)) = ridgewaylaw11_LexPlaces.l0 F s true l n0 ((k + 1 : Nat) : Int) (i : Int) x27 := by
    rw [hline]
    by_cases k0 : l[i].f0 = 1
    · rw [if_pos k0, decide_eq_true k0, if_neg (by simp)]
    · rw [if_neg k0, decide_eq_false k0, if_neg (by simp)]
  by_cases h0 : l[i].f0 = 0
  · rw [if_pos h0]
    by_cases hle : l[i].f1 ≤ (k : Int)
    · rw [if_pos hle]
      rcases hti with hti | hti
      · rcases tok _ hti with ⟨_, k1, k2, k3, k4⟩ | ⟨k0, _⟩
        · have hin : (k : Int) < l[i].f1 + l[i].f2.size := by
            by_cases hlt : l[i].f1 < (k : Int)
            · by_cases h : l[i].f1 + l[i].f2.size ≤ (k : Int)
              · exact absurd ⟨hlt, .inr h⟩ hn
              · omega
            · omega
          obtain ⟨q, hq⟩ : ∃ q : Nat, (k : Int) - l[i].f1 = (q : Int) := ⟨((k : Int) - l[i].f1).toNat, by omega⟩
          have hwq : wrap64 ((k : Int) - l[i].f1) = (q : Int) := by unfold wrap64; omega
          obtain ⟨x, e1, e2, e3⟩ := k4 q (by omega)
          rw [show l[i].f1.toNat + q = k by omega, hk] at e1
          injection e1 with e1
          injection e1 with e1
          subst e1
          rw [hwq, if_pos (by omega), if_pos (by omega), ← e2, if_pos rfl]
          exact fin1
        · omega
      · rw [hti, hE] at h0
        omega
    · rw [if_neg hle]
      exact fin1
  · rw [if_neg h0]
    exact fin1
theorem dec_f (s : ByteArray) (pos : Nat) (h : pos ≤ s.size) : utf8_DecodeRuneInString.f (s.extract ((pos : Int)).toNat s.size) = some (((decL (s.data.toList.drop pos)).1 : Int), ((decL (s.data.toList.drop pos)).2 : Int)) := by
  unfold utf8_DecodeRuneInString.f
  rw [Int.toNat_natCast, dec_tail s pos h, dec_list]
theorem next_char (s : ByteArray) (pos k : Nat) (cs : List (Option Nat)) (hsome : ∀ x ∈ cs, ∃ r : Nat, x = some r) (hk : k < cs.length) (hch : chars (s.data.toList.drop pos) = cs.drop k) :
    pos < s.size ∧ ∃ r d : Nat, 1 ≤ d ∧ pos + d ≤ s.size ∧ cs[k]? = some (some r) ∧ r ≤ 1114111 ∧ utf8_DecodeRuneInString.f (s.extract ((pos : Int)).toNat s.size) = some ((r : Int), (d : Int)) ∧ chars (s.data.toList.drop (pos + d)) = cs.drop (k + 1) := by
  have hlt : pos < s.size := by
    by_cases h : pos < s.size
    · exact h
    · exfalso
      rw [List.drop_of_length_le (l := s.data.toList) (by rw [size_list]; omega)] at hch
      have := congrArg List.length hch
      rw [List.length_drop] at this
      have h0 : (chars []).length = 0 := rfl
      omega
  have hne : s.data.toList.drop pos ≠ [] := by
    intro h0
    have := congrArg List.length h0
    rw [List.length_drop, size_list, List.length_nil] at this
    omega
  have hroom := dec_room _ hne
  have hwd := dec_width (s.data.toList.drop pos)
  rw [List.length_drop, size_list] at hroom
  have hf := dec_f s pos (Nat.le_of_lt hlt)
  have hmx : (decL (s.data.toList.drop pos)).1 ≤ 1114111 := by
    unfold decL
    exact Lib.decodeN_rune_le _ _ _ _ _ (UInt8.toNat_lt _)
  rw [chars_cons hne, List.drop_eq_getElem_cons hk, List.cons.injEq, List.drop_drop] at hch
  obtain ⟨r, hr⟩ := hsome cs[k] (List.getElem_mem hk)
  have hrr : r = (decL (s.data.toList.drop pos)).1 := by
    have := hch.1
    rw [hr] at this
    split at this
    · cases this
    · injection this with this
      exact this.symm
  refine ⟨hlt, r, (decL (s.data.toList.drop pos)).2, hwd, ?_, by rw [List.getElem?_eq_getElem hk, hr], by rw [hrr]; exact hmx, by rw [hrr]; exact hf, hch.2⟩
  exact Nat.add_comm _ _ ▸ Nat.add_le_of_le_sub (Nat.le_of_lt hlt) hroom
theorem main_loop (s : ByteArray) (l : List S32) (n0 : Int) (cs : List (Option Nat)) (hl : l.length ≤ 10000) (hs : ∀ t ∈ l, Small t) (hc : cs.length ≤ 10000) (hsz : s.size ≤ 1000) (hsome : ∀ x ∈ cs, ∃ r : Nat, x = some r) (hn0 : n0 = cs.length)
    (A : List S32) (E : S32) (hA : l = A ++ [E]) (hE : E.f0 = 2) (hEa : E.f1 = cs.length) (tok : ∀ t ∈ A, TokP cs t) (pw : A.Pairwise (fun t u => endT t ≤ u.f1)) (cov : ∀ j : Nat, cs[j]? = some (some 10) → ∃ t ∈ A, t.f0 = 1 ∧ t.f1 = (j : Int)) :
    ∀ (n k i pos F : Nat), chars (s.data.toList.drop pos) = cs.drop k → cs.length = k + n → i ≤ l.length → (∀ j (hj : j < l.length), j < i → Past k l[j]) → pos ≤ s.size → n * (l.length + 5) + 1 ≤ F →
      ridgewaylaw11_LexPlaces.l0 F s true l n0 (k : Int) (i : Int) (pos : Int) = some true
  | 0, k, i, pos, F, hch, hcl, hi, hp, hpos, hF => by
    obtain ⟨F, rfl⟩ : ∃ G, F = G + 1 := ⟨F - 1, by omega⟩
    rw [List.drop_of_length_le (l := cs) (by omega)] at hch
    have hend : ¬ pos < s.size := by
      intro h
      have hne : s.data.toList.drop pos ≠ [] := by
        intro h0
        have := congrArg List.length h0
        rw [List.length_drop, size_list, List.length_nil] at this
        omega
      rw [chars_cons hne] at hch
      cases hch
    have hL : l.length = A.length + 1 := by rw [hA]; simp
    have hwl : wrap64 ((l.length : Int) - 1) = (A.length : Int) := by unfold wrap64; omega
    have hlast : rd_T32 l (A.length : Int) = E := by
      unfold rd_T32
      rw [Int.toNat_natCast, List.getD_eq_getElem?_getD, hA, List.getElem?_append_right (Nat.le_refl _), Nat.sub_self]
      rfl
    rw [ridgewaylaw11_LexPlaces.l0, if_neg (by omega), if_pos rfl, if_pos (by omega), hwl, if_pos (by omega), if_pos (by omega), hlast, if_pos hE, hEa]
    rw [show ((cs.length : Int) == (k : Int)) = true by rw [beq_iff_eq]; omega]
  | n + 1, k, i, pos, F, hch, hcl, hi, hp, hpos, hF => by
    obtain ⟨F, rfl⟩ : ∃ G, F = G + 1 := ⟨F - 1, by omega⟩
    have hk : k < cs.length := by omega
    obtain ⟨hlt, r, d, hd1, hd2, hkr, hmx, hdf, hnx⟩ := next_char s pos k cs hsome hk hch
    clear hch
    have hw : wrap64 ((pos : Int) + (d : Int)) = ((pos + d : Nat) : Int) := by unfold wrap64; omega
    rw [ridgewaylaw11_LexPlaces.l0, if_pos (Int.ofNat_lt.2 hlt), if_pos (Int.natCast_nonneg _), if_pos (Int.ofNat_le.2 hpos), hdf, Option.bind_some]
    dsimp only
    rw [hw]
    have hmul : (n + 1) * (l.length + 5) = n * (l.length + 5) + (l.length + 5) := Nat.succ_mul _ _
    obtain ⟨i', F', a1, a2, a3, a4, a5⟩ := adv s l n0 (k : Int) (r : Int) ((pos + d : Nat) : Int) hl hs l.length i F (by omega) hi (by omega) hp
    rw [a5]
    have hL : l.length = A.length + 1 := by rw [hA]; simp
    have hi' : i' < l.length := by
      by_cases h : i' < l.length
      · exact h
      · exfalso
        have hq : A.length < l.length := by omega
        have := a2 A.length hq (by omega)
        have hlE : l[A.length] = E := by
          have h2 : l[A.length]? = some E := by rw [hA, List.getElem?_append_right (Nat.le_refl _), Nat.sub_self]; rfl
          rw [List.getElem?_eq_getElem hq] at h2
          exact Option.some.inj h2
        rw [hlE] at this
        have := this.1
        omega
    obtain ⟨F', rfl⟩ : ∃ G, F' = G + 1 := ⟨F' - 1, by omega⟩
    rw [look s l n0 cs hl hs k i' r F' _ hc hkr hmx hi' A E hA hE hEa tok pw cov a2 (a3 hi')]
    refine main_loop s l n0 cs hl hs hc hsz hsome hn0 A E hA hE hEa tok pw cov n (k + 1) i' (pos + d) F' hnx (by omega) (by omega) ?_ hd2 (by omega)
    intro j hj hji
    obtain ⟨q1, q2⟩ := a2 j hj hji
    refine ⟨by omega, ?_⟩
    rcases q2 with q2 | q2
    · exact .inl q2
    · exact .inr (by omega)

/-- YOURS: def ridgewaylaw11_LexPlaces.Pure : Prop := ∀ (x0 : ByteArray), g9 x0 → ∃ k, ridgewaylaw11_LexPlaces.f k x0 = some true -/
theorem LexPlaces : ridgewaylaw11_LexPlaces.Pure := by
  intro s _
  by_cases h1 : (s.size : Int) > 1000
  · refine ⟨0, ?_⟩
    unfold ridgewaylaw11_LexPlaces.f
    rw [awake_true, Option.bind_some, if_pos h1]
  · have e0 : lex_All.f s = some (told (foldC (chars s.data.toList) st0)) := congrArg some (lexF_eq s (by omega))
    have hlen := chars_length _ s.data.toList (Nat.le_refl _)
    rw [size_list] at hlen
    cases hf : foldC (chars s.data.toList) st0 with
    | error a =>
      refine ⟨0, ?_⟩
      unfold ridgewaylaw11_LexPlaces.f
      rw [awake_true, Option.bind_some, if_neg h1, e0, hf, Option.bind_some]
      exact if_neg (show ¬ (5 : Int) = 0 by decide)
    | ok st =>
      have hok := foldC_ok _ _ _ st0_ok hf
      have z0 : st0.at_ = 0 := rfl
      have hlt := hok.1.len
      have hat := hok.2
      obtain ⟨hi, hsome⟩ := foldC_inv2 _ [] _ _ ⟨rfl, (fun t ht => by cases ht), List.Pairwise.nil, (fun j hj => by simp at hj), (fun h => by cases h)⟩ hf
      rw [List.nil_append] at hi
      have hsm : ∀ t ∈ st.out ++ [(⟨2, st.at_, ⟨#[]⟩⟩ : S32)], Small t := by
        intro t hm
        rcases List.mem_append.1 hm with hm | hm
        · rcases hi.tok t hm with ⟨_, k1, k2, k3, _⟩ | ⟨_, k1, k2, _, k5⟩
          · exact ⟨k1, by omega, by omega⟩
          · exact ⟨k1, by omega, by omega⟩
        · rw [List.mem_singleton.1 hm]
          exact ⟨by dsimp only; omega, by dsimp only; omega, by dsimp only; rw [show (⟨#[]⟩ : ByteArray).size = 0 from rfl]; omega⟩
      have hll : (st.out ++ [(⟨2, st.at_, ⟨#[]⟩⟩ : S32)]).length ≤ 10000 := by
        rw [List.length_append, List.length_singleton]
        omega
      refine ⟨(chars s.data.toList).length * ((st.out ++ [(⟨2, st.at_, ⟨#[]⟩⟩ : S32)]).length + 5) + 1, ?_⟩
      unfold ridgewaylaw11_LexPlaces.f
      rw [awake_true, Option.bind_some, if_neg h1, e0, hf, Option.bind_some]
      refine (if_pos rfl).trans ?_
      exact main_loop s _ st.at_ (chars s.data.toList) hll hsm (by omega) (by omega) hsome (by omega) st.out ⟨2, st.at_, ⟨#[]⟩⟩ rfl rfl (by dsimp only; omega) hi.tok hi.pw hi.cov _ 0 0 0 _ rfl (by omega) (by omega) (fun j _ h => by omega) (by omega) (Nat.le_refl _)

end Go.Proofs.YtmohglifmoecnaaDoor.Pure
