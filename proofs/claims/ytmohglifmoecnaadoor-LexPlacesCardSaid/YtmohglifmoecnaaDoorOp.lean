/- What an argument of the law holds, read off its datum: for each type, that whatever can be read as data is a value of the print's own kind (Kd); no statement of the law is in here. -/
import Derived.Test.YtmohglifmoecnaaDoorWMore
import Derived.Deep.Slices
import Derived.SizedLaws
import Derived.ChangeArms
import Derived.DataReads
import Derived.KernelRfl
namespace Go.Proofs.YtmohglifmoecnaaDoor.Op
open Go.ChangeShapes Go.WideShapes Go.Deep Go.RowKit Go.Proofs.YtmohglifmoecnaaDoorW.PrintWords
set_option linter.unusedVariables false
theorem weightsAll_mem {H : Type} {P : Program} {e : TypeId} : ∀ {l : List (DataW H)} {d : DataW H}, d ∈ l → ∀ n ∈ d.weights P e, n ∈ DataW.weightsAll P e l
  | x :: l, d, hd, n, hn => by
    simp only [DataW.weightsAll, List.mem_append]
    rcases List.mem_cons.1 hd with rfl | hd
    · exact .inl hn
    · exact .inr (weightsAll_mem hd n hn)
/-- What is read of type t, and takes no more than the reach, is a value of the kind d that meets G. -/
structure Opens {α : Type} (P : Program) (t : TypeId) (d : Kd α) (G : α → Prop) : Prop where
  out : ∀ {H : Type} {enc : TypeId × Value → H} {w : World} {base : Nat} {spare : Nat → Bool} {held : Bool} {fuel : Nat} {cs : List Value} {x : DataW H × List MemPlace},
    DataW.trod enc P w base spare held fuel t cs = some x → (∀ n ∈ x.1.weights P t, n ≤ reachBytes) → ∃ a, d.K w a cs ∧ G a
theorem Opens.int {P : Program} {t : TypeId} {k : IntKind} (hu : P.underlying t = some (.int k)) : Opens P t (Kd.int k) (fun a => (Lit.int k a).wf = true) := by
  refine ⟨?_⟩
  intro H enc w base spare held fuel cs x h hz
  obtain ⟨n, rfl, -, hw⟩ := DataW.trod_int hu h
  exact ⟨n, rfl, hw⟩
theorem Opens.bool {P : Program} {t : TypeId} (hu : P.underlying t = some .bool) : Opens P t Kd.bool (fun _ => True) := by
  refine ⟨?_⟩
  intro H enc w base spare held fuel cs x h hz
  obtain ⟨n, rfl, -⟩ := DataW.trod_bool hu h
  exact ⟨n, rfl, trivial⟩
theorem Opens.string {P : Program} {t : TypeId} (hu : P.underlying t = some .string) : Opens P t Kd.string (fun a => a.size ≤ 140737488351232) := by
  refine ⟨?_⟩
  intro H enc w base spare held fuel cs x h hz
  obtain ⟨s, rfl, hx, _⟩ := DataW.trod_string hu h
  subst hx
  have := hz s.data.toList.length (by simp [DataW.weights])
  refine ⟨s, rfl, ?_⟩
  have e : s.data.toList.length = s.size := Array.length_toList
  rw [e] at this
  exact this
theorem choose_list {α : Type} {Q : Nat → α → Prop} : ∀ n : Nat, (∀ i, i < n → ∃ a, Q i a) → ∃ xs : List α, xs.length = n ∧ ∀ i x, xs[i]? = some x → Q i x
  | 0, _ => ⟨[], rfl, fun i x h => by simp at h⟩
  | n + 1, h => by
    obtain ⟨xs, hl, hx⟩ := choose_list n (fun i hi => h i (by omega))
    obtain ⟨a, ha⟩ := h n (by omega)
    refine ⟨xs ++ [a], by simp [hl], fun i x hi => ?_⟩
    rcases Nat.lt_or_ge i xs.length with hlt | hge
    · rw [List.getElem?_append_left hlt] at hi
      exact hx i x hi
    · rw [List.getElem?_append_right hge] at hi
      have e : i = n := by
        rcases Nat.lt_or_ge (i - xs.length) 1 with h1 | h1
        · omega
        · rw [List.getElem?_eq_none (by simpa using h1)] at hi
          cases hi
      subst e
      rw [show i - xs.length = 0 by omega] at hi
      simp at hi
      subst hi
      exact ha
theorem Opens.slice {α : Type} {P : Program} {t e : TypeId} {d : Kd α} {G : α → Prop} (e' : Nat) {B : Nat} (hu : P.underlying t = some (.slice e)) (hc : P.cellsOf e = d.sz) (hB : P.bytesOf e = B) (he : Opens P e d G) :
    Opens P t (Kd.slice e' d) (fun xs => xs.length ≤ 9223372036854775807 ∧ xs.length * B ≤ 140737488351232 ∧ ∀ x ∈ xs, G x) := by
  refine ⟨?_⟩
  intro H enc w base spare held fuel cs x h hz
  rcases open_slice hu h with ⟨rfl, -⟩ | ⟨a, len, cap, m, n, D, Pl, rfl, hb, hl, hm, hmm, hx, hi⟩
  · exact ⟨[], ⟨none, 0, rfl, Nat.le_refl _, Kd.C_nil _ _⟩, by simp, by simp, fun x hx => by simp at hx⟩
  · subst hx
    have hlm : len ≤ m := by
      rw [hmm]
      split
      · exact hl
      · exact Nat.le_refl _
    have hmx : len ≤ 9223372036854775807 := Nat.le_trans hl (by unfold maxLen at hm; exact hm)
    have hw := hz _ (by rw [DataW.weights, hu]; exact List.mem_cons_self)
    have hrest : ∀ i, i < len → ∀ n ∈ (D i).weights P e, n ≤ reachBytes := fun i hil n hn => hz n (by
      rw [DataW.weights, hu]
      refine List.mem_cons_of_mem _ (List.mem_append_left _ (weightsAll_mem (d := D i) ?_ n hn))
      exact List.mem_map.2 ⟨i, List.mem_range.2 hil, rfl⟩)
    obtain ⟨xs, hxl, hxs⟩ := choose_list (Q := fun i y => (∃ c, c.length = d.sz ∧ d.K w y c ∧ ∀ j u, c[j]? = some u → w.cell? (a.add (i * d.sz + j)) = some u) ∧ G y) len (fun i hil => by
      obtain ⟨cs', hcs, ht⟩ := hi i (by omega)
      obtain ⟨y, hK, hG⟩ := he.out ht (hrest i hil)
      obtain ⟨_, hcl, hat⟩ := World.cells?_some hcs
      rw [hc] at hcl hat
      refine ⟨y, ⟨cs', hcl, hK, fun j u hj => ?_⟩, hG⟩
      have hjl : j < d.sz := by
        have := (List.getElem?_eq_some_iff.1 hj).1
        omega
      rw [← Go.Deep.add_add, hat j hjl, hj])
    refine ⟨xs, ⟨some a, cap, by rw [hxl], by omega, ⟨rfl, by omega, fun _ => ⟨a, rfl, fun j p hj => (hxs j p hj).1⟩⟩⟩, by omega, ?_, fun x hx => ?_⟩
    · rw [hB] at hw
      simp only [List.length_map, List.length_range] at hw
      have : xs.length ≤ len + (m - len) := by omega
      exact Nat.le_trans (Nat.mul_le_mul_right _ this) hw
    · obtain ⟨i, hi⟩ := List.mem_iff_getElem?.1 hx
      exact (hxs i x hi).2
/-- The same of the fields of a struct, from cell o on. -/
structure OpensF {α : Type} (P : Program) (o : Nat) (fs : List Field) (d : Kd α) (G : α → Prop) : Prop where
  out : ∀ {H : Type} {enc : TypeId × Value → H} {w : World} {base : Nat} {spare : Nat → Bool} {held : Bool} {n : Nat} {cs : List Value}, cs.length = o + d.sz →
    (∀ (i : Nat) (f : Field), fs[i]? = some f → ∃ x : DataW H × List MemPlace, DataW.trod enc P w base spare held n f.type ((cs.drop f.offset).take (P.cellsOf f.type)) = some x ∧ ∀ m ∈ x.1.weights P f.type, m ≤ reachBytes) → ∃ a, d.K w a (cs.drop o) ∧ G a
theorem OpensF.last {α : Type} {P : Program} {o : Nat} {f : Field} {d : Kd α} {G : α → Prop} (hf : Opens P f.type d G) (ho : f.offset = o) (hc : P.cellsOf f.type = d.sz) : OpensF P o [f] d G := by
  refine ⟨?_⟩
  intro H enc w base spare held n cs hl h
  obtain ⟨x, hx, hz⟩ := h 0 f rfl
  rw [ho, hc, List.take_of_length_le (by simp; omega)] at hx
  exact hf.out hx hz
theorem OpensF.cons {α β : Type} {P : Program} {o o' : Nat} {f : Field} {fs : List Field} {d : Kd α} {d' : Kd β} {G : α → Prop} {G' : β → Prop} (hf : Opens P f.type d G) (ho : f.offset = o) (hc : P.cellsOf f.type = d.sz) (ho' : o + d.sz = o') (hr : OpensF P o' fs d' G') :
    OpensF P o (f :: fs) (Kd.pair d d') (fun x => G x.1 ∧ G' x.2) := by
  refine ⟨?_⟩
  intro H enc w base spare held n cs hl h
  subst ho'
  obtain ⟨x, hx, hz⟩ := h 0 f rfl
  rw [ho, hc] at hx
  obtain ⟨a, hK, hG⟩ := hf.out hx hz
  obtain ⟨b, hK', hG'⟩ := hr.out (by rw [hl]; show o + (d.sz + d'.sz) = _; omega) (fun i f' hi => h (i + 1) f' hi)
  refine ⟨(a, b), ⟨_, _, ?_, hK, hK'⟩, hG, hG'⟩
  rw [show cs.drop (o + d.sz) = (cs.drop o).drop d.sz by rw [List.drop_drop], List.take_append_drop]
theorem weightsEach_mem {H : Type} {P : Program} {fs : List Field} {parts : List (DataW H)} {i : Nat} {f : Field} {d : DataW H} (hf : fs[i]? = some f) (hd : parts[i]? = some d) : ∀ n ∈ d.weights P f.type, n ∈ DataW.weightsEach P (fs.map (·.type)) parts :=
  DataW.weights_mem_each (by rw [List.getElem?_map, hf]; rfl) hd
theorem Opens.struct {α : Type} {P : Program} {t : TypeId} {fs : Array Field} {d : Kd α} {G : α → Prop} (hu : P.underlying t = some (.struct fs)) (hc : P.cellsOf t = d.sz) (hF : OpensF P 0 fs.toList d G) : Opens P t d G := by
  refine ⟨?_⟩
  intro H enc w base spare held fuel cs x h hz
  obtain ⟨xs, n, -, hx, hl, hxl, hf⟩ := DataW.trod_struct hu h
  subst hx
  have := hF.out (cs := cs) (w := w) (enc := enc) (base := base) (spare := spare) (held := held) (n := n) (by rw [hl, hc]; omega) (fun i f hi => by
    have hi' : fs[i]? = some f := by simpa using hi
    have hil : i < fs.size := (Array.getElem?_eq_some_iff.1 hi').1
    have hxi : xs[i]? = some (xs[i]'(by omega)) := List.getElem?_eq_getElem (by omega)
    refine ⟨xs[i]'(by omega), (hf i f hi').trans hxi, fun m hm => hz m ?_⟩
    rw [DataW.weights, hu]
    exact weightsEach_mem hi (by rw [List.getElem?_map, hxi]; rfl) m hm)
  exact this
theorem Opens.iso {α β : Type} {P : Program} {t : TypeId} {d : Kd α} {G : α → Prop} (f : β → α) (g : α → β) (hfg : ∀ a, f (g a) = a) (h : Opens P t d G) : Opens P t (Kd.iso d f) (fun b => G (f b)) := by
  refine ⟨?_⟩
  intro H enc w base spare held fuel cs x hx hz
  obtain ⟨a, hK, hG⟩ := h.out hx hz
  refine ⟨g a, ?_, by show G (f (g a)); rw [hfg]; exact hG⟩
  show d.K w (f (g a)) cs
  rw [hfg]
  exact hK
/-- The weights of one argument, out of the row's. -/
theorem weights_of {H : Type} {P : Program} {ts : List TypeId} {ds : List (DataW H)} (h : (DataW.weightsEach P ts ds).all (· ≤ reachBytes) = true) {j : Nat} {t : TypeId} {d : DataW H} (ht : ts[j]? = some t) (hd : ds[j]? = some d) : ∀ n ∈ d.weights P t, n ≤ reachBytes := fun n hn => by
  have := List.all_eq_true.1 h n (DataW.weights_mem_each ht hd n hn)
  simpa using this
/-- What came in, told as what is shared. -/
theorem shared_of {α : Type} {d : Kd α} {e : Nat} {w : World} {A : Option Addr} {c : Nat} {xs : List α} (hd : Kd.Heap d) (hl : xs.length ≤ c) (h : d.C w A xs.length xs) : Kd.V d e w w.heap.size (fun k_ => k_ < w.heap.size) (.slice A xs.length c) xs := Kd.V_mk hl (Kd.C_F hd h)
end Go.Proofs.YtmohglifmoecnaaDoor.Op
