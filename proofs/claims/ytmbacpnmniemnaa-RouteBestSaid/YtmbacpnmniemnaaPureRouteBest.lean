/- That none is better than the best (the law RouteBest), as a statement over numbers and lists alone: of any routes the best one is one of them, and none is better; turned round, and with one twice, it is the same; of two lists together it is the better one of both; without a condition. -/
import Derived.Test.YtmbacpnmniemnaaPdRouteBest
import Derived.Test.YtmbacpnmniemnaaPureRoute
namespace Go.Proofs.Ytmbacpnmniemnaa.Pure
open Go.RowKit Go.Proofs.Ytmbacpnmniemnaa.PAll Go.Proofs.YtmbacpnmniemnaaW.PrintWords Go.Proofs.YtmbacpnmniemnaaW.PrintLast
set_option linter.unusedVariables false

theorem small_nextB {n : Nat} (h : n ≤ 1000) : ∀ i : Nat, i < n → wrap64 ((i : Int) + 1) = ((i + 1 : Nat) : Int) := by intro i hi; unfold wrap64; omega
/-- The best one from here on. -/
def bestFrom (m : S27) : List S27 → S27
  | [] => m
  | x :: l => if cmpR x m < 0 then bestFrom x l else bestFrom m l
def bst : List S27 → S27
  | [] => ⟨0, ⟨0, [], 0, 0⟩, 0⟩
  | x :: t => bestFrom x t
abbrev tup (m : S27) : Int × Int × List Int × Int × Int × Int := (m.f0, m.f1.f0, m.f1.f1, m.f1.f2, m.f1.f3, m.f2)
theorem ev_best (l : List S27) (hw : ∀ i : Nat, i < l.length → wrap64 ((i : Int) + 1) = ((i + 1 : Nat) : Int)) : ∀ (d i : Nat) (m : S27), i ≤ l.length → l.length - i = d → Ev (fun k => api_Route_at_route_Compare.l0 k l i m.f0 m.f1.f0 m.f1.f1 m.f1.f2 m.f1.f3 m.f2) (tup (bestFrom m (l.drop i))) := by
  intro d
  induction d with
  | zero =>
    intro i m hi hd
    rw [List.drop_eq_nil_of_le (by omega)]
    exact Ev.step (f := fun _ => some (tup m)) (fun k => by simp only [api_Route_at_route_Compare.l0]; rw [if_neg (by omega)]) (Ev.now _)
  | succ d ih =>
    intro i m hi hd
    have hlt : i < l.length := by omega
    rw [List.drop_eq_getElem_cons hlt]
    have hc : route_Compare.f l[i].f0 l[i].f1.f0 l[i].f1.f1 l[i].f1.f2 l[i].f1.f3 l[i].f2 m.f0 m.f1.f0 m.f1.f1 m.f1.f2 m.f1.f3 m.f2 = some (cmpR l[i] m) := rfl
    simp only [bestFrom]
    by_cases h : cmpR l[i] m < 0
    · rw [if_pos h]
      refine Ev.step (fun k => ?_) (ih (i + 1) l[i] (by omega) (by omega))
      simp only [api_Route_at_route_Compare.l0]
      rw [if_pos (by omega), if_pos (by omega), rd27 l i hlt, hc]
      simp only [Option.bind_some]
      rw [if_pos h, hw i hlt]
    · rw [if_neg h]
      refine Ev.step (fun k => ?_) (ih (i + 1) m (by omega) (by omega))
      simp only [api_Route_at_route_Compare.l0]
      rw [if_pos (by omega), if_pos (by omega), rd27 l i hlt, hc]
      simp only [Option.bind_some]
      rw [if_neg h, hw i hlt]
theorem ev_bst (l : List S27) (hn : l.length ≤ 1000) : Ev (fun k => route_Best.f k l) ((bst l).f0, (bst l).f1.f0, (bst l).f1.f1, (bst l).f1.f2, (bst l).f1.f3, (bst l).f2, !l.isEmpty) := by
  cases l with
  | nil => exact Ev.congr (fun k => by simp [route_Best.f, bst]) (Ev.now _)
  | cons x t =>
    have h1 := ev_best (x :: t) (small_nextB hn) _ 1 x (by simp) rfl
    have hlen : ¬ (((x :: t).length : Int) = 0) := by simp only [List.length_cons]; omega
    have hx : rd_T27 (x :: t) 0 = x := rfl
    have h3 : Ev (fun k => api_Route_at_route_Compare.f k (x :: t)) (tup (bst (x :: t))) := by
      refine Ev.congr (fun k => ?_) h1
      simp only [api_Route_at_route_Compare.f]
      rw [if_neg (by simp only [List.length_cons]; omega), if_pos (by simp only [List.length_cons]; omega), hx]
      rfl
    refine Ev.congr (fun k => ?_) (Ev.bind (f := fun _ (b : Int × Int × List Int × Int × Int × Int) => some (b.1, b.2.1, b.2.2.1, b.2.2.2.1, b.2.2.2.2.1, b.2.2.2.2.2, true)) h3 (Ev.now _))
    simp only [route_Best.f]
    rw [if_neg hlen]
theorem bestFrom_mem : ∀ (r : List S27) (m : S27), bestFrom m r = m ∨ bestFrom m r ∈ r
  | [], m => .inl rfl
  | x :: r, m => by
    simp only [bestFrom]
    split
    · rcases bestFrom_mem r x with h | h
      · exact .inr (by rw [h]; simp)
      · exact .inr (by simp [h])
    · rcases bestFrom_mem r m with h | h
      · exact .inl h
      · exact .inr (by simp [h])
theorem bestFrom_le : ∀ (r : List S27) (m : S27), cmpR (bestFrom m r) m ≤ 0 ∧ ∀ y ∈ r, cmpR (bestFrom m r) y ≤ 0
  | [], m => ⟨by show cmpR m m ≤ 0; rw [cmpR_self]; exact Int.le_refl 0, fun y h => by cases h⟩
  | x :: r, m => by
    simp only [bestFrom]
    split
    · rename_i hx
      obtain ⟨h1, h2⟩ := bestFrom_le r x
      refine ⟨cmpR_le _ _ _ h1 (by omega), fun y hy => ?_⟩
      rcases List.mem_cons.1 hy with rfl | hy
      · exact h1
      · exact h2 y hy
    · rename_i hx
      obtain ⟨h1, h2⟩ := bestFrom_le r m
      refine ⟨h1, fun y hy => ?_⟩
      rcases List.mem_cons.1 hy with rfl | hy
      · have := cm.anti y m
        exact cmpR_le _ _ _ h1 (by omega)
      · exact h2 y hy
theorem bst_mem {l : List S27} (h : l ≠ []) : bst l ∈ l := by
  cases l with
  | nil => exact absurd rfl h
  | cons x t => rcases bestFrom_mem t x with e | e <;> simp [bst, e]
theorem bst_le {l : List S27} : ∀ y ∈ l, cmpR (bst l) y ≤ 0 := by
  cases l with
  | nil => intro y h; cases h
  | cons x t =>
    obtain ⟨h1, h2⟩ := bestFrom_le t x
    intro y hy
    rcases List.mem_cons.1 hy with rfl | hy
    · exact h1
    · exact h2 y hy
/-- Two lists with the same members have the same best one. -/
theorem bst_same {l r : List S27} (h : l ≠ []) (hr : r ≠ []) (h1 : ∀ y ∈ l, y ∈ r) (h2 : ∀ y ∈ r, y ∈ l) : cmpR (bst r) (bst l) = 0 := by
  have a := bst_le _ (h1 _ (bst_mem h))
  have b := bst_le _ (h2 _ (bst_mem hr))
  have := cm.anti (bst l) (bst r)
  omega
theorem bst_both {l m : List S27} (h : l ≠ []) (b : S27) (hb : b = if m = [] then bst l else if cmpR (bst m) (bst l) < 0 then bst m else bst l) : cmpR (bst (l ++ m)) b = 0 := by
  have hn : l ++ m ≠ [] := by simp [h]
  have hbm : b ∈ l ++ m := by
    rw [hb]
    split
    · exact List.mem_append_left _ (bst_mem h)
    · split
      · exact List.mem_append_right _ (bst_mem (by assumption))
      · exact List.mem_append_left _ (bst_mem h)
  have hle : ∀ y ∈ l ++ m, cmpR b y ≤ 0 := by
    intro y hy
    rw [hb]
    split
    · rename_i e
      subst e
      exact bst_le y (by simpa using hy)
    · split
      · rename_i e
        rcases List.mem_append.1 hy with hy | hy
        · exact cmpR_le _ _ _ (Int.le_of_lt e) (bst_le y hy)
        · exact bst_le y hy
      · rename_i e
        rcases List.mem_append.1 hy with hy | hy
        · exact bst_le y hy
        · have := cm.anti (bst m) (bst l)
          exact cmpR_le _ (bst m) _ (by omega) (bst_le y hy)
  have a := bst_le _ hbm
  have c := hle _ (bst_mem hn)
  have := cm.anti b (bst (l ++ m))
  omega
theorem small_prev (j : Nat) (h : j < 1000) : wrap64 ((j : Int) - 1) = (j : Int) - 1 := by unfold wrap64; omega
theorem few_allB {l : List S27} (h : few l = true) : l.length ≤ 30 := by
  unfold few at h
  rw [Bool.and_eq_true] at h
  exact of_decide_eq_true h.2

abbrev J3 (k : Nat) (l m : List S27) (back : List S27) (b : Bool) (x y : S27) : Option Bool :=
  ridgewaylaw09_RouteBest.j3 k l m true (!l.isEmpty) (!m.isEmpty) back b x.f0 x.f1.f0 x.f1.f1 x.f1.f2 x.f1.f3 x.f2 y.f0 y.f1.f0 y.f1.f1 y.f1.f2 y.f1.f3 y.f2
abbrev L0 (k : Nat) (l m : List S27) (inn : Bool) (back : List S27) (i : Int) (x y : S27) : Option Bool :=
  ridgewaylaw09_RouteBest.l0 k l m true (!l.isEmpty) (!m.isEmpty) inn back i x.f0 x.f1.f0 x.f1.f1 x.f1.f2 x.f1.f3 x.f2 y.f0 y.f1.f0 y.f1.f1 y.f1.f2 y.f1.f3 y.f2
theorem same_f (a b : S27) : route_Same.f a.f0 a.f1.f0 a.f1.f1 a.f1.f2 a.f1.f3 a.f2 b.f0 b.f1.f0 b.f1.f1 b.f1.f2 b.f1.f3 b.f2 = some (cmpR a b == 0) := rfl
theorem comp_f (a b : S27) : route_Compare.f a.f0 a.f1.f0 a.f1.f1 a.f1.f2 a.f1.f3 a.f2 b.f0 b.f1.f0 b.f1.f1 b.f1.f2 b.f1.f3 b.f2 = some (cmpR a b) := rfl
theorem ev_j4 (x y z w v : S27) (h1 : cmpR z x = 0) (b : Bool) (h2 : cmpR w (if b then y else v) = 0) : Ev (fun k => ridgewaylaw09_RouteBest.j4 k true true true b x.f0 x.f1.f0 x.f1.f1 x.f1.f2 x.f1.f3 x.f2 y.f0 y.f1.f0 y.f1.f1 y.f1.f2 y.f1.f3 y.f2 z.f0 z.f1.f0 z.f1.f1 z.f1.f2 z.f1.f3 z.f2 w.f0 w.f1.f0 w.f1.f1 w.f1.f2 w.f1.f3 w.f2 v.f0 v.f1.f0 v.f1.f1 v.f1.f2 v.f1.f3 v.f2) true := by
  have e1 : (cmpR z x == 0) = true := beq_iff_eq.mpr h1
  cases b with
  | true =>
    have e2 : (cmpR w y == 0) = true := beq_iff_eq.mpr h2
    refine Ev.step (f := fun _ => some true) (fun k => ?_) (Ev.now _)
    simp only [ridgewaylaw09_RouteBest.j4, same_f, e1, e2, if_true, Option.bind_some]
  | false =>
    have e2 : (cmpR w v == 0) = true := beq_iff_eq.mpr h2
    refine Ev.step (f := fun _ => some true) (fun k => ?_) (Ev.now _)
    simp only [ridgewaylaw09_RouteBest.j4, same_f, e1, e2, if_true, Option.bind_some, Bool.false_eq_true, if_false]
theorem ev_j3 (l m : List S27) (hl : l.length ≤ 30) (hm : m.length ≤ 30) (hne : l ≠ []) : Ev (fun k => J3 k l m l.reverse false (bst l) (bst m)) true := by
  obtain ⟨x, t, rfl⟩ := List.exists_cons_of_ne_nil hne
  have hx : rd_T27 (x :: t) 0 = x := rfl
  have b1 := ev_bst ((x :: t).reverse ++ [x]) (by simp only [List.length_append, List.length_reverse, List.length_cons, List.length_nil] at *; omega)
  have b2 := ev_bst ((x :: t) ++ m) (by simp only [List.length_append, List.length_cons] at *; omega)
  have e1 : cmpR (bst ((x :: t).reverse ++ [x])) (bst (x :: t)) = 0 := bst_same hne (by simp) (fun y hy => List.mem_append_left _ (List.mem_reverse.mpr hy)) (fun y hy => by
    rcases List.mem_append.1 hy with h | h
    · exact List.mem_reverse.1 h
    · rw [List.mem_singleton.1 h]; exact List.mem_cons_self)
  have n1 : (!((x :: t).reverse ++ [x]).isEmpty) = true := by simp
  have n2 : (!((x :: t) ++ m).isEmpty) = true := by simp
  rw [n1] at b1
  rw [n2] at b2
  have fin : Ev (fun k => if (!m.isEmpty) = true then ((route_Compare.f (bst m).f0 (bst m).f1.f0 (bst m).f1.f1 (bst m).f1.f2 (bst m).f1.f3 (bst m).f2 (bst (x :: t)).f0 (bst (x :: t)).f1.f0 (bst (x :: t)).f1.f1 (bst (x :: t)).f1.f2 (bst (x :: t)).f1.f3 (bst (x :: t)).f2).bind fun t378 => (ridgewaylaw09_RouteBest.j4 k true true true (decide (t378 < 0)) (bst (x :: t)).f0 (bst (x :: t)).f1.f0 (bst (x :: t)).f1.f1 (bst (x :: t)).f1.f2 (bst (x :: t)).f1.f3 (bst (x :: t)).f2 (bst m).f0 (bst m).f1.f0 (bst m).f1.f1 (bst m).f1.f2 (bst m).f1.f3 (bst m).f2 (bst ((x :: t).reverse ++ [x])).f0 (bst ((x :: t).reverse ++ [x])).f1.f0 (bst ((x :: t).reverse ++ [x])).f1.f1 (bst ((x :: t).reverse ++ [x])).f1.f2 (bst ((x :: t).reverse ++ [x])).f1.f3 (bst ((x :: t).reverse ++ [x])).f2 (bst ((x :: t) ++ m)).f0 (bst ((x :: t) ++ m)).f1.f0 (bst ((x :: t) ++ m)).f1.f1 (bst ((x :: t) ++ m)).f1.f2 (bst ((x :: t) ++ m)).f1.f3 (bst ((x :: t) ++ m)).f2 (bst (x :: t)).f0 (bst (x :: t)).f1.f0 (bst (x :: t)).f1.f1 (bst (x :: t)).f1.f2 (bst (x :: t)).f1.f3 (bst (x :: t)).f2)) else ridgewaylaw09_RouteBest.j4 k true true true false (bst (x :: t)).f0 (bst (x :: t)).f1.f0 (bst (x :: t)).f1.f1 (bst (x :: t)).f1.f2 (bst (x :: t)).f1.f3 (bst (x :: t)).f2 (bst m).f0 (bst m).f1.f0 (bst m).f1.f1 (bst m).f1.f2 (bst m).f1.f3 (bst m).f2 (bst ((x :: t).reverse ++ [x])).f0 (bst ((x :: t).reverse ++ [x])).f1.f0 (bst ((x :: t).reverse ++ [x])).f1.f1 (bst ((x :: t).reverse ++ [x])).f1.f2 (bst ((x :: t).reverse ++ [x])).f1.f3 (bst ((x :: t).reverse ++ [x])).f2 (bst ((x :: t) ++ m)).f0 (bst ((x :: t) ++ m)).f1.f0 (bst ((x :: t) ++ m)).f1.f1 (bst ((x :: t) ++ m)).f1.f2 (bst ((x :: t) ++ m)).f1.f3 (bst ((x :: t) ++ m)).f2 (bst (x :: t)).f0 (bst (x :: t)).f1.f0 (bst (x :: t)).f1.f1 (bst (x :: t)).f1.f2 (bst (x :: t)).f1.f3 (bst (x :: t)).f2) true := by
    cases m with
    | nil =>
      refine Ev.congr (fun k => if_neg (by simp)) ?_
      exact ev_j4 (bst (x :: t)) (bst []) _ _ (bst (x :: t)) e1 false (bst_both (m := []) hne _ (by simp))
    | cons y u =>
      refine Ev.congr (fun k => if_pos (by simp)) ?_
      rw [comp_f]
      simp only [Option.bind_some]
      refine ev_j4 (bst (x :: t)) (bst (y :: u)) _ _ (bst (x :: t)) e1 _ (bst_both (m := y :: u) hne _ ?_)
      by_cases h : cmpR (bst (y :: u)) (bst (x :: t)) < 0 <;> simp [h]
  refine Ev.step (f := fun k => (route_Best.f k ((x :: t).reverse ++ [x])).bind fun bt348 => (route_Best.f k ((x :: t) ++ m)).bind fun bt367 => (if (!m.isEmpty) = true then ((route_Compare.f (bst m).f0 (bst m).f1.f0 (bst m).f1.f1 (bst m).f1.f2 (bst m).f1.f3 (bst m).f2 (bst (x :: t)).f0 (bst (x :: t)).f1.f0 (bst (x :: t)).f1.f1 (bst (x :: t)).f1.f2 (bst (x :: t)).f1.f3 (bst (x :: t)).f2).bind fun t378 => (ridgewaylaw09_RouteBest.j4 k true bt348.2.2.2.2.2.2 bt367.2.2.2.2.2.2 (decide (t378 < 0)) (bst (x :: t)).f0 (bst (x :: t)).f1.f0 (bst (x :: t)).f1.f1 (bst (x :: t)).f1.f2 (bst (x :: t)).f1.f3 (bst (x :: t)).f2 (bst m).f0 (bst m).f1.f0 (bst m).f1.f1 (bst m).f1.f2 (bst m).f1.f3 (bst m).f2 bt348.1 bt348.2.1 bt348.2.2.1 bt348.2.2.2.1 bt348.2.2.2.2.1 bt348.2.2.2.2.2.1 bt367.1 bt367.2.1 bt367.2.2.1 bt367.2.2.2.1 bt367.2.2.2.2.1 bt367.2.2.2.2.2.1 (bst (x :: t)).f0 (bst (x :: t)).f1.f0 (bst (x :: t)).f1.f1 (bst (x :: t)).f1.f2 (bst (x :: t)).f1.f3 (bst (x :: t)).f2)) else ridgewaylaw09_RouteBest.j4 k true bt348.2.2.2.2.2.2 bt367.2.2.2.2.2.2 false (bst (x :: t)).f0 (bst (x :: t)).f1.f0 (bst (x :: t)).f1.f1 (bst (x :: t)).f1.f2 (bst (x :: t)).f1.f3 (bst (x :: t)).f2 (bst m).f0 (bst m).f1.f0 (bst m).f1.f1 (bst m).f1.f2 (bst m).f1.f3 (bst m).f2 bt348.1 bt348.2.1 bt348.2.2.1 bt348.2.2.2.1 bt348.2.2.2.2.1 bt348.2.2.2.2.2.1 bt367.1 bt367.2.1 bt367.2.2.1 bt367.2.2.2.1 bt367.2.2.2.2.1 bt367.2.2.2.2.2.1 (bst (x :: t)).f0 (bst (x :: t)).f1.f0 (bst (x :: t)).f1.f1 (bst (x :: t)).f1.f2 (bst (x :: t)).f1.f3 (bst (x :: t)).f2)) (fun k => ?_) (Ev.bind b1 (Ev.bind b2 fin))
  show ridgewaylaw09_RouteBest.j3 (k + 1) _ _ _ _ _ _ _ _ _ _ _ _ _ _ _ _ _ _ _ = _
  simp only [ridgewaylaw09_RouteBest.j3]
  rw [if_neg (by simp), if_pos (by simp), if_pos (by simp only [List.length_cons]; omega), if_pos (by simp only [List.length_reverse, List.length_cons] at *; omega), hx]
  have c1 : ([] : List S27).length + (x :: t).length < 2199023255552 := by simp only [List.length_cons, List.length_nil] at *; omega
  have c2 : (x :: t).length + m.length < 2199023255552 := by simp only [List.length_cons] at *; omega
  simp only [Option.bind_some, List.nil_append, if_pos c1, if_pos c2]
theorem ev_loop (l m : List S27) (hl : l.length ≤ 30) (hm : m.length ≤ 30) (hne : l ≠ []) : ∀ (j : Nat), j ≤ l.length → Ev (fun k => L0 k l m ((l.drop j).any (fun r => cmpR r (bst l) == 0)) (l.drop j).reverse ((j : Int) - 1) (bst l) (bst m)) true := by
  intro j
  induction j with
  | zero =>
    intro _
    refine Ev.step (f := fun k => J3 k l m l.reverse false (bst l) (bst m)) (fun k => ?_) (ev_j3 l m hl hm hne)
    show ridgewaylaw09_RouteBest.l0 (k + 1) _ _ _ _ _ _ _ _ _ _ _ _ _ _ _ _ _ _ _ _ = _
    simp only [ridgewaylaw09_RouteBest.l0]
    have hpos : 0 < l.length := List.length_pos_iff.mpr hne
    have hany : (l.drop 0).any (fun r => cmpR r (bst l) == 0) = true := by
      rw [List.drop_zero, List.any_eq_true]
      exact ⟨bst l, bst_mem hne, by rw [cmpR_self]; rfl⟩
    have hemp : (!l.isEmpty) = true := by cases l with | nil => exact absurd rfl hne | cons => rfl
    rw [if_neg (by omega), hany, hemp, if_neg (by simp; exact hne)]
    simp only [J3, hemp, List.drop_zero]
    rfl
  | succ j ih =>
    intro hj
    have hlt : j < l.length := by omega
    have ih := ih (by omega)
    rw [List.drop_eq_getElem_cons hlt, List.any_cons, List.reverse_cons] at ih
    have hno : ¬ cmpR l[j] (bst l) < 0 := by
      have := bst_le (l := l) l[j] (List.getElem_mem hlt)
      have := cm.anti (bst l) l[j]
      omega
    have hj2 : Ev (fun k => ridgewaylaw09_RouteBest.j2 k l m true (!l.isEmpty) (!m.isEmpty) (cmpR l[j] (bst l) == 0 || (l.drop (j + 1)).any (fun r => cmpR r (bst l) == 0)) (l.drop (j + 1)).reverse (j : Int) (bst l).f0 (bst l).f1.f0 (bst l).f1.f1 (bst l).f1.f2 (bst l).f1.f3 (bst l).f2 (bst m).f0 (bst m).f1.f0 (bst m).f1.f1 (bst m).f1.f2 (bst m).f1.f3 (bst m).f2) true := by
      refine Ev.step (fun k => ?_) ih
      simp only [ridgewaylaw09_RouteBest.j2]
      rw [if_pos (by omega), if_pos (by omega), if_pos (by simp only [List.length_reverse, List.length_drop]; omega), rd27 l j hlt, comp_f]
      simp only [Option.bind_some]
      rw [if_neg hno, small_prev j (by omega)]
    refine Ev.step (fun k => ?_) hj2
    show ridgewaylaw09_RouteBest.l0 (k + 1) _ _ _ _ _ _ _ _ _ _ _ _ _ _ _ _ _ _ _ _ = _
    have ej : (((j + 1 : Nat) : Int) - 1) = (j : Int) := by omega
    rw [ej]
    simp only [ridgewaylaw09_RouteBest.l0]
    rw [if_pos (by omega)]
    cases (l.drop (j + 1)).any (fun r => cmpR r (bst l) == 0) with
    | true => rw [if_pos rfl, Bool.or_true]
    | false => rw [if_neg (by simp), if_pos (by omega), if_pos (by omega), rd27 l j hlt, same_f, Bool.or_false]; rfl
theorem ev_empty (m : List S27) : Ev (fun k => L0 k [] m false [] (-1) (bst []) (bst m)) true := by
  have h3 : Ev (fun k => J3 k [] m [] false (bst []) (bst m)) true := by
    refine Ev.step (f := fun _ => some true) (fun k => ?_) (Ev.now _)
    show ridgewaylaw09_RouteBest.j3 (k + 1) _ _ _ _ _ _ _ _ _ _ _ _ _ _ _ _ _ _ _ = _
    simp only [ridgewaylaw09_RouteBest.j3]
    rw [if_neg (by simp), if_neg (by simp), if_pos trivial]
    rfl
  refine Ev.step (fun k => ?_) h3
  show ridgewaylaw09_RouteBest.l0 (k + 1) _ _ _ _ _ _ _ _ _ _ _ _ _ _ _ _ _ _ _ _ = _
  simp only [ridgewaylaw09_RouteBest.l0]
  rw [if_neg (by omega), if_neg (by simp)]
  rfl
theorem RouteBest : ridgewaylaw09_RouteBest.Pure := by
  intro l m hl hm
  refine Ev.rounds ?_
  have h1 := few_ev l hl.1
  have h2 := few_ev m hm.1
  unfold ridgewaylaw09_RouteBest.f
  refine Ev.bind (Ev.now true) (Ev.bind h1 ?_)
  have no : Ev (fun k => ridgewaylaw09_RouteBest.j0 k l m true true) true := Ev.step (f := fun _ => some true) (fun k => by simp only [ridgewaylaw09_RouteBest.j0]; rw [if_pos trivial]) (Ev.now _)
  cases hf : few l with
  | false => exact Ev.congr (fun k => if_neg (by simp)) no
  | true =>
    refine Ev.congr (fun k => if_pos rfl) ?_
    refine Ev.bind h2 ?_
    cases hg : few m with
    | false => exact no
    | true =>
      have nl := few_allB hf
      have nm := few_allB hg
      have b1 := ev_bst l (by omega)
      have b2 := ev_bst m (by omega)
      have main : Ev (fun k => L0 k l m false [] ((l.length : Int) - 1) (bst l) (bst m)) true := by
        by_cases hne : l = []
        · subst hne
          exact ev_empty m
        · have := ev_loop l m nl nm hne l.length (Nat.le_refl _)
          rwa [List.drop_length] at this
      refine Ev.step (f := fun k => (route_Best.f k l).bind fun bt315 => ((route_Best.f k m).bind fun bt325 => (ridgewaylaw09_RouteBest.l0 k l m true bt315.2.2.2.2.2.2 bt325.2.2.2.2.2.2 false ([] : List (S27)) ((l.length : Int) - 1) bt315.1 bt315.2.1 bt315.2.2.1 bt315.2.2.2.1 bt315.2.2.2.2.1 bt315.2.2.2.2.2.1 bt325.1 bt325.2.1 bt325.2.2.1 bt325.2.2.2.1 bt325.2.2.2.2.1 bt325.2.2.2.2.2.1))) (fun k => ?_) (Ev.bind b1 (Ev.bind b2 main))
      show ridgewaylaw09_RouteBest.j0 (k + 1) l m true false = _
      simp only [ridgewaylaw09_RouteBest.j0]
      rw [if_neg (by simp), small_prev l.length (by omega)]
end Go.Proofs.Ytmbacpnmniemnaa.Pure
