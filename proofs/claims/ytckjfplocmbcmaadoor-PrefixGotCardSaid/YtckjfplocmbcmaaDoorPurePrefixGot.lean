import Derived.Test.YtckjfplocmbcmaaDoorPdPrefixGot
import Derived.Test.YtckjfplocmbcmaaDoorPureGet
namespace Go.Proofs.YtckjfplocmbcmaaDoor.Pure
open Go.RowKit Go.Proofs.YtckjfplocmbcmaaDoor.PAll Go.Proofs.YtckjfplocmbcmaaDoorW.PrintWords Go.Proofs.YtckjfplocmbcmaaDoorW.PrintLast Go.Proofs.YtckjfplocmbcmaaDoorW.PrintMore
set_option linter.unusedVariables false
theorem all_end (k : Nat) (acc : List S23) : prefix_All.l0 (k + 1) [] acc = some (acc, true) := by
  rw [prefix_All.l0, if_neg (by decide)]
theorem all_go (k : Nat) (l : List Int) (acc : List S23) (h0 : l ≠ []) (hl : l.length ≤ 140737488355328) (hb : ∀ x ∈ l, byteI x) (ha : acc.length < 8796093022208) :
    prefix_All.l0 (k + 9) l acc = if (getP l).2.2.2 = true then prefix_All.l0 (k + 8) (getP l).2.2.1 (acc ++ [(⟨(getP l).1, (getP l).2.1⟩ : S23)]) else some ([], false) := by
  have hp : (l.length : Int) > 0 := by
    have := List.length_pos_iff.2 h0
    omega
  rw [show k + 9 = (k + 8) + 1 by omega, prefix_All.l0, if_pos hp, get_eq k l hl hb, Option.bind_some, if_pos ha]
theorem all_eq : ∀ (d : Nat) (l : List Int) (acc : List S23), l.length ≤ d → (∀ x ∈ l, byteI x) → acc.length + d < 8796093022208 → ∃ res ok, prefix_All.l0 (d + 9) l acc = some (res, ok) ∧ (ok = false → res = []) ∧ (ok = true → ∃ t, res = acc ++ t)
  | 0, l, acc, hl, hb, ha => by
    obtain rfl : l = [] := List.eq_nil_of_length_eq_zero (by omega)
    exact ⟨acc, true, all_end 8 acc, fun h => (by cases h), fun _ => ⟨[], by simp⟩⟩
  | d + 1, l, acc, hl, hb, ha => by
    by_cases h0 : l = []
    · subst h0
      exact ⟨acc, true, all_end (d + 1 + 8) acc, fun h => (by cases h), fun _ => ⟨[], by simp⟩⟩
    · rw [all_go (d + 1) l acc h0 (by omega) hb (by omega)]
      cases hg : (getP l).2.2.2
      · rw [if_neg (by decide)]
        exact ⟨[], false, rfl, fun _ => rfl, fun h => by cases h⟩
      · rw [if_pos rfl]
        obtain ⟨p, n, r, ok, e⟩ : ∃ p n r ok, getP l = (p, n, r, ok) := ⟨_, _, _, _, rfl⟩
        rw [e] at hg ⊢
        dsimp only at hg ⊢
        subst hg
        obtain ⟨-, -, hr, hbr, -, -⟩ := getP_ok hb e
        obtain ⟨res, ok, h1, h2, h3⟩ := all_eq d r (acc ++ [⟨p, n⟩]) (by omega) hbr (by simp; omega)
        refine ⟨res, ok, h1, h2, fun h => ?_⟩
        obtain ⟨t, rfl⟩ := h3 h
        exact ⟨⟨p, n⟩ :: t, by simp⟩
theorem got_loop : ∀ (d : Nat) (l : List Int) (acc res : List S23) (ok : Bool), l.length ≤ d → (∀ x ∈ l, byteI x) → acc.length + d < 8796093022208 → prefix_All.l0 (d + 9) l acc = some (res, ok) → ridgewaylaw02_PrefixGot.l0 (d + 9) true res ok l (acc.length : Int) = some true := by
  have stop : ∀ (k : Nat) (acc res : List S23) (ok : Bool), prefix_All.l0 (k + 1) [] acc = some (res, ok) → ridgewaylaw02_PrefixGot.l0 (k + 1) true res ok [] (acc.length : Int) = some true := by
    intro k acc res ok h
    rw [all_end] at h
    simp only [Option.some.injEq, Prod.mk.injEq] at h
    obtain ⟨rfl, rfl⟩ := h
    rw [ridgewaylaw02_PrefixGot.l0, if_neg (by decide), if_pos rfl]
  intro d
  induction d with
  | zero =>
    intro l acc res ok hl hb ha h
    obtain rfl : l = [] := List.eq_nil_of_length_eq_zero (by omega)
    exact stop 8 acc res ok h
  | succ d ih =>
    intro l acc res ok hl hb ha h
    by_cases h0 : l = []
    · subst h0
      exact stop (d + 1 + 8) acc res ok h
    · rw [all_go (d + 1) l acc h0 (by omega) hb (by omega)] at h
      have hp : (l.length : Int) > 0 := by
        have := List.length_pos_iff.2 h0
        omega
      rw [show d + 1 + 9 = (d + 1 + 8) + 1 by omega, ridgewaylaw02_PrefixGot.l0, if_pos hp, get_eq (d + 1) l (by omega) hb, Option.bind_some]
      obtain ⟨p, n, r, g, e⟩ : ∃ p n r g, getP l = (p, n, r, g) := ⟨_, _, _, _, rfl⟩
      rw [e] at h ⊢
      dsimp only at h ⊢
      cases g
      · rw [if_neg (by decide)] at h ⊢
        simp only [Option.some.injEq, Prod.mk.injEq] at h
        obtain ⟨rfl, rfl⟩ := h
        rw [if_pos rfl, if_neg (by decide)]
        rfl
      · rw [if_pos rfl] at h ⊢
        obtain ⟨hs, hi, hr, hbr, hn0, hn1⟩ := getP_ok hb e
        have hpl := putP_len (a := p) hn1
        have hgp := get_put p n [] hs
        rw [List.append_nil] at hgp
        rw [put_eq (d + 1) [] p n hi hs (by simp), Option.bind_some, List.nil_append, get_eq (d + 1) _ (by have := szP_le hn1; omega) (putP_byte hn0 hn1), Option.bind_some, hgp, sane_eq p n hi, Option.bind_some, if_pos hs, if_pos (by unfold wrap64; omega), if_pos rfl, if_neg (by simp)]
        have hn := ih r (acc ++ [⟨p, n⟩]) res ok (by omega) hbr (by simp; omega) h
        have hw : wrap64 ((acc.length : Int) + 1) = ((acc ++ [(⟨p, n⟩ : S23)]).length : Int) := by
          rw [List.length_append, List.length_singleton]
          unfold wrap64
          omega
        rw [hw]
        cases ok
        · rw [if_neg (by decide)]
          exact hn
        · rw [if_pos rfl]
          obtain ⟨res', ok', h1, -, h3⟩ := all_eq d r (acc ++ [⟨p, n⟩]) (by omega) hbr (by simp; omega)
          rw [show d + 9 = d + 1 + 8 by omega] at h1
          rw [h1] at h
          simp only [Option.some.injEq, Prod.mk.injEq] at h
          obtain ⟨rfl, rfl⟩ := h
          obtain ⟨t, rfl⟩ := h3 rfl
          have hlen : acc.length < (acc ++ [(⟨p, n⟩ : S23)] ++ t).length := by simp
          have hrd : rd_T23 (acc ++ [(⟨p, n⟩ : S23)] ++ t) (acc.length : Int) = ⟨p, n⟩ := by
            unfold rd_T23
            rw [Int.toNat_natCast, List.getD_eq_getElem?_getD]
            simp
          rw [if_neg (by omega), if_pos (by omega), if_pos (by omega), hrd, if_neg (by simp)]
          exact hn
theorem g5_byte {x : Int} (h : g5 x) : byteI x := by
  have h' : IntKind.u8.min ≤ x ∧ x ≤ IntKind.u8.max := by simpa [g5, Lit.wf] using h
  have e1 : IntKind.u8.min = 0 := by decide +kernel
  have e2 : IntKind.u8.max = 255 := by decide +kernel
  unfold byteI
  omega
theorem awake_more {k : Nat} (h : 40 ≤ k) : ridgewaylaw02_awake.f k = some true := by
  obtain ⟨j, rfl⟩ := Nat.exists_eq_add_of_le h
  clear h
  induction j with
  | zero => exact awake_yes
  | succ j ih => exact ridgewaylaw02_awake.mono _ _ ih
theorem PrefixGot : ridgewaylaw02_PrefixGot.Pure := by
  intro l hl
  obtain ⟨-, -, hb⟩ := hl
  refine ⟨249, ?_⟩
  unfold ridgewaylaw02_PrefixGot.f
  rw [awake_more (by decide), Option.bind_some]
  by_cases h : (l.length : Int) > 200
  · rw [if_pos h]
  · rw [if_neg h]
    have hb' : ∀ x ∈ l, byteI x := fun x hx => g5_byte (hb x hx)
    obtain ⟨res, ok, h1, -, -⟩ := all_eq 240 l [] (by omega) hb' (by simp)
    unfold prefix_All.f
    rw [h1, Option.bind_some]
    exact got_loop 240 l [] res ok (by omega) hb' (by simp) h1
end Go.Proofs.YtckjfplocmbcmaaDoor.Pure
