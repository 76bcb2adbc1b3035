import Derived.Test.YtckjfplocmbcmaaDoorPdPrefixBack
import Derived.Test.YtckjfplocmbcmaaDoorPureGet
namespace Go.Proofs.YtckjfplocmbcmaaDoor.Pure
open Go.RowKit Go.Proofs.YtckjfplocmbcmaaDoor.PAll Go.Proofs.YtckjfplocmbcmaaDoorW.PrintWords Go.Proofs.YtckjfplocmbcmaaDoorW.PrintLast Go.Proofs.YtckjfplocmbcmaaDoorW.PrintMore
set_option linter.unusedVariables false
theorem same_loop' (k : Nat) (l : List S23) (hl : l.length < 1000000) : ∀ (d i : Nat), i + d = l.length → ridgewayref02_Same.l0 (k + d + 1) l l (i : Int) = some true
  | 0, i, h => by rw [ridgewayref02_Same.l0, if_neg (by omega)]
  | d + 1, i, h => by
    have hw : wrap64 ((i : Int) + 1) = ((i + 1 : Nat) : Int) := by unfold wrap64; omega
    rw [ridgewayref02_Same.l0, if_pos (by omega), if_pos (by omega), if_pos (by omega), if_neg (by simp), hw, show k + (d + 1) = k + d + 1 by omega]
    exact same_loop' k l hl d (i + 1) (by omega)
theorem same_eq' (k : Nat) (l : List S23) (hl : l.length ≤ k) (hk : k < 1000000) : ridgewayref02_Same.f (k + 1) l l = some true := by
  unfold ridgewayref02_Same.f
  rw [if_pos rfl]
  have := same_loop' (k - l.length) l (by omega) l.length 0 (by omega)
  rw [show k - l.length + l.length + 1 = k + 1 by omega] at this
  exact this
/-- What prefixes are put as, one behind the other. -/
def catP : List S23 → List Int
  | [] => []
  | p :: ps => putP p.f0 p.f1 ++ catP ps
def allSane (ps : List S23) : Prop := ∀ p ∈ ps, saneP p.f0 p.f1 = true
theorem catP_app : ∀ (ps : List S23) (p : S23), catP (ps ++ [p]) = catP ps ++ putP p.f0 p.f1
  | [], p => by simp [catP]
  | q :: ps, p => by rw [List.cons_append, catP, catP, catP_app ps p, List.append_assoc]
theorem putP_len5 {a n : Int} (hs : saneP a n = true) : (putP a n).length ≤ 5 := by
  obtain ⟨-, h1, -⟩ := (saneP_iff a n).1 hs
  rw [putP_len h1]
  have := szP_le h1
  omega
theorem catP_len : ∀ (ps : List S23), allSane ps → (catP ps).length ≤ 5 * ps.length
  | [], _ => by simp [catP]
  | p :: ps, h => by
    have h1 := putP_len5 (h p (by simp))
    have h2 := catP_len ps (fun q hq => h q (List.mem_cons_of_mem _ hq))
    rw [catP, List.length_append, List.length_cons]
    omega
theorem catP_byte : ∀ (ps : List S23), allSane ps → ∀ x ∈ catP ps, byteI x
  | [], _, x, hx => by simp [catP] at hx
  | p :: ps, h, x, hx => by
    rw [catP, List.mem_append] at hx
    rcases hx with hx | hx
    · obtain ⟨h0, h1, -⟩ := (saneP_iff p.f0 p.f1).1 (h p (by simp))
      exact putP_byte h0 h1 x hx
    · exact catP_byte ps (fun q hq => h q (List.mem_cons_of_mem _ hq)) x hx
theorem all_cat (k : Nat) : ∀ (ps acc : List S23), allSane ps → ps.length ≤ 1000 → acc.length + ps.length < 1000000 → prefix_All.l0 (k + ps.length + 9) (catP ps) acc = some (acc ++ ps, true)
  | [], acc, _, _, _ => by
    rw [catP, List.append_nil, show k + ([] : List S23).length + 9 = (k + 8) + 1 by simp, prefix_All.l0, if_neg (by decide)]
  | p :: ps, acc, h, hl, ha => by
    have hs := h p (by simp)
    have h' : allSane ps := fun q hq => h q (List.mem_cons_of_mem _ hq)
    have hlen := catP_len (p :: ps) h
    rw [List.length_cons] at hlen hl ha
    have hget := get_eq (k + ps.length + 1) (catP (p :: ps)) (by omega) (catP_byte _ h)
    have hne : ((catP (p :: ps)).length : Int) > 0 := by
      rw [catP, putP]
      simp only [List.cons_append, List.length_cons]
      omega
    rw [List.length_cons, show k + (ps.length + 1) + 9 = (k + ps.length + 9) + 1 by omega, prefix_All.l0, if_pos hne, show k + ps.length + 9 = k + ps.length + 1 + 8 by omega, hget, Option.bind_some, catP, get_put p.f0 p.f1 _ hs]
    dsimp only
    rw [if_pos rfl, if_pos (show acc.length < 8796093022208 by omega), show k + ps.length + 1 + 8 = k + ps.length + 9 by omega, all_cat k ps (acc ++ [p]) h' (by omega) (by simp; omega), List.append_assoc]
    rfl
theorem rd_at {l : List S23} {i : Nat} (h : i < l.length) : rd_T23 l (i : Int) = l[i] := by
  unfold rd_T23
  rw [Int.toNat_natCast, List.getD_eq_getElem?_getD, List.getElem?_eq_getElem h]
  rfl
theorem back_loop (l : List S23) (m : List Int) (hl : l.length ≤ 60) (hm : m.length ≤ 200) (hml : ∀ x ∈ m, byteI x) (hi : ∀ p ∈ l, i64 p.f0) : ∀ (d i : Nat) (ps : List S23), i + d = l.length → ps.length ≤ i → allSane ps → ridgewaylaw02_PrefixBack.l0 (d + 101) l m true (catP ps) ps (i : Int) = some true
  | 0, i, ps, h, hp, hs => by
    rw [ridgewaylaw02_PrefixBack.l0, if_neg (by omega)]
    unfold prefix_All.f
    have h1 := all_cat (91 - ps.length) ps [] hs (by omega) (by simp; omega)
    rw [show 91 - ps.length + ps.length + 9 = 100 by omega] at h1
    rw [h1, Option.bind_some, if_pos rfl, if_pos rfl, List.nil_append, show ridgewayref02_Same.f 100 ps ps = some true from same_eq' 99 ps (by omega) (by decide), Option.bind_some]
  | d + 1, i, ps, h, hp, hs => by
    have hlt : i < l.length := by omega
    have hw : wrap64 ((i : Int) + 1) = ((i + 1 : Nat) : Int) := by unfold wrap64; omega
    have hcl := catP_len ps hs
    rw [show d + 1 + 101 = (d + 101) + 1 by omega, ridgewaylaw02_PrefixBack.l0, if_pos (by omega), if_pos (by omega), rd_at hlt, hw]
    obtain ⟨p, hpe⟩ : ∃ p, p = l[i] := ⟨_, rfl⟩
    rw [← hpe]
    have hpi : i64 p.f0 := by rw [hpe]; exact hi _ (List.getElem_mem hlt)
    by_cases hsn : saneP p.f0 p.f1 = true
    · obtain ⟨h0, h1, -⟩ := (saneP_iff p.f0 p.f1).1 hsn
      have h5 := putP_len5 hsn
      have hpl := putP_len (a := p.f0) h1
      have h4 := szP_le h1
      have hb : ∀ x ∈ putP p.f0 p.f1 ++ m, byteI x := by
        intro x hx
        rcases List.mem_append.1 hx with hx | hx
        · exact putP_byte h0 h1 x hx
        · exact hml x hx
      rw [show d + 101 = (d + 93) + 8 by omega, put_eq (d + 93) (catP ps) _ _ hpi hsn (by omega), Option.bind_some, sane_eq _ _ hpi, Option.bind_some, if_pos hsn, Option.bind_some, put_eq (d + 93) [] _ _ hpi hsn (by simp), Option.bind_some, List.nil_append]
      rw [if_pos (by simp; omega), Option.bind_some, List.nil_append, if_pos (by omega), get_eq (d + 93) _ (by rw [List.length_append]; omega) hb, Option.bind_some, get_put _ _ _ hsn]
      dsimp only
      rw [size_eq _ h0 (by omega)]
      have e1 : wrap64 ((wrap64 (((catP ps).length : Int) + 1)) + ((szP p.f1 : Nat) : Int)) = ((catP ps ++ putP p.f0 p.f1).length : Int) := by
        rw [List.length_append, hpl, show wrap64 (((catP ps).length : Int) + 1) = ((catP ps).length : Int) + 1 by unfold wrap64; omega]
        unfold wrap64
        omega
      rw [e1, if_pos rfl, if_pos rfl, if_neg (by simp), if_pos rfl, if_pos (by omega), ← catP_app]
      have hs' : allSane (ps ++ [p]) := by
        intro q hq
        rcases List.mem_append.1 hq with hq | hq
        · exact hs q hq
        · rw [List.mem_singleton.1 hq]
          exact hsn
      exact back_loop l m hl hm hml hi d (i + 1) (ps ++ [p]) (by omega) (by simp; omega) hs'
    · have hsf : saneP p.f0 p.f1 = false := by simpa using hsn
      rw [put_no _ _ _ _ hpi hsf (by omega), Option.bind_some, sane_eq _ _ hpi, Option.bind_some, if_neg hsn, if_pos rfl]
      exact back_loop l m hl hm hml hi d (i + 1) ps (by omega) (by omega) hs
theorem g5_byteB {x : Int} (h : g5 x) : byteI x := by
  have h' : IntKind.u8.min ≤ x ∧ x ≤ IntKind.u8.max := by simpa [g5, Lit.wf] using h
  have e1 : IntKind.u8.min = 0 := by decide +kernel
  have e2 : IntKind.u8.max = 255 := by decide +kernel
  unfold byteI
  omega
theorem awake_moreB {k : Nat} (h : 40 ≤ k) : ridgewaylaw02_awake.f k = some true := by
  obtain ⟨j, rfl⟩ := Nat.exists_eq_add_of_le h
  clear h
  induction j with
  | zero => exact awake_yes
  | succ j ih => exact ridgewaylaw02_awake.mono _ _ ih
theorem PrefixBack : ridgewaylaw02_PrefixBack.Pure := by
  intro l m hl hm
  have hml : ∀ x ∈ m, byteI x := fun x hx => g5_byteB (hm.2.2 x hx)
  have hi : ∀ p ∈ l, i64 p.f0 := fun p hp => g3_iff (hl.2.2 p hp).1
  by_cases h1 : (l.length : Int) > 60
  · refine ⟨41, ?_⟩
    unfold ridgewaylaw02_PrefixBack.f
    rw [awake_moreB (by decide), Option.bind_some, if_pos h1, ridgewaylaw02_PrefixBack.j0, if_pos rfl]
  · by_cases h2 : (m.length : Int) > 200
    · refine ⟨41, ?_⟩
      unfold ridgewaylaw02_PrefixBack.f
      rw [awake_moreB (by decide), Option.bind_some, if_neg h1, decide_eq_true h2, ridgewaylaw02_PrefixBack.j0, if_pos rfl]
    · refine ⟨l.length + 101 + 1, ?_⟩
      unfold ridgewaylaw02_PrefixBack.f
      rw [awake_moreB (by omega), Option.bind_some, if_neg h1, decide_eq_false h2, ridgewaylaw02_PrefixBack.j0, if_neg (by decide)]
      exact back_loop l m (by omega) (by omega) hml hi l.length 0 [] (by omega) (by simp) (fun p hp => by cases hp)
end Go.Proofs.YtckjfplocmbcmaaDoor.Pure
