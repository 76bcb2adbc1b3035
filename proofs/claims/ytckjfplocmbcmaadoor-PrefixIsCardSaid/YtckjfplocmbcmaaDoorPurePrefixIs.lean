import Derived.Test.YtckjfplocmbcmaaDoorPdPrefixIs
import Derived.Test.YtckjfplocmbcmaaDoorPureRefText
namespace Go.Proofs.YtckjfplocmbcmaaDoor.Pure
open Go.RowKit Go.Proofs.YtckjfplocmbcmaaDoor.PAll Go.Proofs.YtckjfplocmbcmaaDoorW.PrintWords Go.Proofs.YtckjfplocmbcmaaDoorW.PrintLast Go.Proofs.YtckjfplocmbcmaaDoorW.PrintMore
set_option linter.unusedVariables false
theorem alls_same : ∀ (d : Nat) (l : List Int) (acc : List S23), l.length ≤ d → (∀ x ∈ l, byteI x) → acc.length + d < 8796093022208 → ridgewayref02_All.l0 (d + 41) l acc = prefix_All.l0 (d + 41) l acc ∧ ∃ res ok, prefix_All.l0 (d + 41) l acc = some (res, ok) ∧ res.length ≤ acc.length + d
  | 0, l, acc, hl, hb, ha => by
    obtain rfl : l = [] := List.eq_nil_of_length_eq_zero (by omega)
    refine ⟨?_, acc, true, ?_, Nat.le_refl _⟩
    · rw [ridgewayref02_All.l0, prefix_All.l0, if_neg (by decide), if_neg (by decide)]
    · rw [prefix_All.l0, if_neg (by decide)]
  | d + 1, l, acc, hl, hb, ha => by
    by_cases h0 : l = []
    · subst h0
      refine ⟨?_, acc, true, ?_, by omega⟩
      · rw [ridgewayref02_All.l0, prefix_All.l0, if_neg (by decide), if_neg (by decide)]
      · rw [prefix_All.l0, if_neg (by decide)]
    · have hp : (l.length : Int) > 0 := by
        have := List.length_pos_iff.2 h0
        omega
      rw [show d + 1 + 41 = (d + 41) + 1 by omega, ridgewayref02_All.l0, prefix_All.l0, if_pos hp, if_pos hp]
      rw [show ridgewayref02_Get.f (d + 41) l = some (getP l) from rget_eq (d + 1) l (by omega) hb, show prefix_Get.f (d + 41) l = some (getP l) from get_eq (d + 33) l (by omega) hb, Option.bind_some, Option.bind_some]
      obtain ⟨p, n, r, ok, e⟩ : ∃ p n r ok, getP l = (p, n, r, ok) := ⟨_, _, _, _, rfl⟩
      rw [e]
      dsimp only
      cases ok
      · rw [if_neg (by decide), if_neg (by decide)]
        exact ⟨rfl, [], false, rfl, by simp⟩
      · obtain ⟨-, -, hr, hbr, -, -⟩ := getP_ok hb e
        rw [if_pos rfl, if_pos rfl, if_pos (show acc.length < 8796093022208 by omega), if_pos (show acc.length < 8796093022208 by omega)]
        obtain ⟨h1, res, ok, h2, h3⟩ := alls_same d r (acc ++ [⟨p, n⟩]) (by omega) hbr (by simp; omega)
        refine ⟨h1, res, ok, h2, ?_⟩
        rw [List.length_append, List.length_singleton] at h3
        omega
theorem same_loop (k : Nat) (l : List S23) (hl : l.length < 1000000) : ∀ (d i : Nat), i + d = l.length → ridgewayref02_Same.l0 (k + d + 1) l l (i : Int) = some true
  | 0, i, h => by rw [ridgewayref02_Same.l0, if_neg (by omega)]
  | d + 1, i, h => by
    have hw : wrap64 ((i : Int) + 1) = ((i + 1 : Nat) : Int) := by unfold wrap64; omega
    rw [ridgewayref02_Same.l0, if_pos (by omega), if_pos (by omega), if_pos (by omega), if_neg (by simp), hw, show k + (d + 1) = k + d + 1 by omega]
    exact same_loop k l hl d (i + 1) (by omega)
theorem same_eq (k : Nat) (l : List S23) (hl : l.length ≤ k) (hk : k < 1000000) : ridgewayref02_Same.f (k + 1) l l = some true := by
  unfold ridgewayref02_Same.f
  rw [if_pos rfl]
  have := same_loop (k - l.length) l (by omega) l.length 0 (by omega)
  rw [show k - l.length + l.length + 1 = k + 1 by omega] at this
  exact this
theorem is_tail (p q : S23) (n : Int) (b : List Int) (hp : i64 p.f0) (hq : i64 q.f0) (hn : i64 n) (hb : b.length ≤ 300) : ridgewaylaw02_PrefixIs.j1 400 n b true false p.f0 p.f1 q.f0 q.f1 = some true := by
  rw [ridgewaylaw02_PrefixIs.j1, if_neg (by decide), if_pos rfl]
  rw [mask_eq p.f0 n hp.1 hp.2, Option.bind_some, show ridgewayref02_Mask.f 399 p.f0 n = _ from rmask_eq 366 p.f0 n hp, Option.bind_some, if_pos rfl]
  rw [sane_eq p.f0 p.f1 hp, Option.bind_some, show ridgewayref02_Sane.f 399 p.f0 p.f1 = _ from rsane_eq 366 p.f0 p.f1 hp, Option.bind_some, beq_self_eq_true, if_pos rfl]
  rw [has_eq _ _ _ _ hp hq, Option.bind_some, show ridgewayref02_Has.f 399 p.f0 p.f1 q.f0 q.f1 = _ from rhas_eq 366 _ _ _ _ hp hq, Option.bind_some, beq_self_eq_true, if_pos rfl]
  rw [show prefix_Compare.f 399 p.f0 p.f1 q.f0 q.f1 = _ from compare_eq 396 _ _ _ _, Option.bind_some, show ridgewayref02_Compare.f 399 p.f0 p.f1 q.f0 q.f1 = _ from rcompare_eq 398 _ _ _ _, Option.bind_some, if_pos rfl]
  have hput : prefix_Put.f 399 b p.f0 p.f1 = some (if saneP p.f0 p.f1 = true then b ++ putP p.f0 p.f1 else b) := by
    by_cases hs : saneP p.f0 p.f1 = true
    · rw [if_pos hs]
      exact put_eq 391 b _ _ hp hs (by omega)
    · rw [if_neg hs]
      exact put_no 399 b _ _ hp (by simpa using hs) (by omega)
  rw [hput, Option.bind_some, show ridgewayref02_Put.f 399 b p.f0 p.f1 = _ from rput_eq 366 b _ _ hp (by omega), Option.bind_some, if_pos rfl]
  rw [show prefix_Text.f 399 p.f0 p.f1 = _ from text_eq 391 _ _ hp, Option.bind_some, show ridgewayref02_Text.f 399 p.f0 p.f1 = _ from rtext_eq 366 _ _ hp, Option.bind_some, beq_self_eq_true]
theorem is_mid (p q : S23) (n : Int) (b : List Int) (s : ByteArray) (hp : i64 p.f0) (hq : i64 q.f0) (hn : i64 n) (hb : b.length ≤ 300) (hbb : ∀ x ∈ b, byteI x) (hs : s.size ≤ 60) : ridgewaylaw02_PrefixIs.j0 401 n b s true false p.f0 p.f1 q.f0 q.f1 = some true := by
  have ht := is_tail p q n b hp hq hn hb
  obtain ⟨h1, res, ok, h2, h3⟩ := alls_same 359 b [] (by omega) hbb (by simp)
  have hr := reads_same 300 394 s hs
  obtain ⟨a, m, ok', h4, -, -⟩ := read_spec 394 s (by omega)
  rw [ridgewaylaw02_PrefixIs.j0, if_neg (by decide)]
  rw [show prefix_Get.f 400 b = _ from get_eq 392 b (by omega) hbb, Option.bind_some, show ridgewayref02_Get.f 400 b = _ from rget_eq 360 b (by omega) hbb, Option.bind_some]
  unfold prefix_All.f ridgewayref02_All.f
  rw [show prefix_All.l0 400 b [] = _ from h2, Option.bind_some, show ridgewayref02_All.l0 400 b [] = _ from h1.trans h2, Option.bind_some]
  rw [show prefix_Read.f 400 s = _ from h4, Option.bind_some, show ridgewayref02_Read.f 400 s = _ from hr.trans h4, Option.bind_some]
  dsimp only
  rw [if_neg (by simp), if_pos rfl, if_neg (by simp), show ridgewayref02_Same.f 400 res res = _ from same_eq 399 res (by simp at h3; omega) (by decide), Option.bind_some, if_pos rfl, if_neg (by simp), if_neg (by simp), bne_self_eq_false]
  exact ht
theorem awake_more' {k : Nat} (h : 40 ≤ k) : ridgewaylaw02_awake.f k = some true := by
  obtain ⟨j, rfl⟩ := Nat.exists_eq_add_of_le h
  clear h
  induction j with
  | zero => exact awake_yes
  | succ j ih => exact ridgewaylaw02_awake.mono _ _ ih
theorem is_f (p q : S23) (n : Int) (b : List Int) (s : ByteArray) (hp : i64 p.f0) (hq : i64 q.f0) (hn : i64 n) (hbb : ∀ x ∈ b, byteI x) : ridgewaylaw02_PrefixIs.f 401 p.f0 p.f1 q.f0 q.f1 n b s = some true := by
  unfold ridgewaylaw02_PrefixIs.f
  rw [awake_more' (by decide), Option.bind_some]
  have no : ridgewaylaw02_PrefixIs.j0 401 n b s true true p.f0 p.f1 q.f0 q.f1 = some true := by rw [ridgewaylaw02_PrefixIs.j0, if_pos rfl]
  by_cases h : (b.length : Int) > 300
  · rw [if_pos h]
    exact no
  · rw [if_neg h]
    by_cases h2 : (s.size : Int) > 60
    · rw [decide_eq_true h2]
      exact no
    · rw [decide_eq_false h2]
      exact is_mid p q n b s hp hq hn (by omega) hbb (by omega)
theorem g5_byte' {x : Int} (h : g5 x) : byteI x := by
  have h' : IntKind.u8.min ≤ x ∧ x ≤ IntKind.u8.max := by simpa [g5, Lit.wf] using h
  have e1 : IntKind.u8.min = 0 := by decide +kernel
  have e2 : IntKind.u8.max = 255 := by decide +kernel
  unfold byteI
  omega
theorem PrefixIs : ridgewaylaw02_PrefixIs.Pure := by
  intro p q n b s hp hq hn hb hs
  exact ⟨401, is_f p q n b s (g3_iff hp.1) (g3_iff hq.1) (g3_iff hn) (fun x hx => g5_byte' (hb.2.2 x hx))⟩
end Go.Proofs.YtckjfplocmbcmaaDoor.Pure
