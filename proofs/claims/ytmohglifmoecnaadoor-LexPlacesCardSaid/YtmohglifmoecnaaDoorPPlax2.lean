-- Written by a program of this session's (wip/tools), out of the translation. Lean checks it.
import Derived.Test.YtmohglifmoecnaaDoorPPlax0
import Derived.Test.YtmohglifmoecnaaDoorPPlax1
namespace Go.Proofs.YtmohglifmoecnaaDoor.PPla
open Go.RowKit Go.Proofs.YtmohglifmoecnaaDoorW.PrintWords Go.Proofs.YtmohglifmoecnaaDoorW.PrintLast Go.Proofs.YtmohglifmoecnaaDoorW.PrintMore
attribute [local go_sem] max2_int min2_int max_two min_two max_three min_three max_four min_four   -- for this text's walks alone
set_option linter.unusedVariables false
set_option linter.unusedSimpArgs false

/-! ### lex_All: function 11 (ours) -/

theorem dec_posA (s : ByteArray) (pos : Nat) : 1 ≤ (Utf8.decode s pos).2 := by
  rw [Pure.dec_list]
  exact Pure.dec_width _
def letterR (r : Int) : Bool := decide ((97 ≤ r ∧ r ≤ 122) ∨ (48 ≤ r ∧ r ≤ 57) ∨ r = 45 ∨ r = 46 ∨ r = 47)
theorem letter_eq (r : Int) (h0 : 0 ≤ r) (h1 : r ≤ 1114111) : lex_letter.f r = some (letterR r) := by
  have hs : strings_ContainsRune.f (⟨#[46, 47, 45]⟩ : ByteArray) r = some (decide (r = 45 ∨ r = 46 ∨ r = 47)) := if_pos ⟨h0, h1, rfl⟩
  unfold lex_letter.f letterR
  simp only [hs, Option.bind_some]
  by_cases a : r ≥ 97
  · rw [if_pos a]
    by_cases b : r ≤ 122
    · rw [if_pos b, decide_eq_true]
      omega
    · rw [if_neg b, if_pos (by omega), if_neg (by omega)]
      congr 1
      rw [decide_eq_decide]
      omega
  · rw [if_neg a]
    by_cases b : r ≥ 48
    · rw [if_pos b]
      by_cases c : r ≤ 57
      · rw [if_pos c, decide_eq_true]
        omega
      · rw [if_neg c]
        congr 1
        rw [decide_eq_decide]
        omega
    · rw [if_neg b]
      congr 1
      rw [decide_eq_decide]
      omega
theorem run_append_T (base : Nat) (W : World) (v : Value) (xs : List S32) (p : S32) (ok : Nat → Prop) (HO : Kd.R k32 32 W base ok v xs) (hbase : base ≤ W.heap.size) (hl : xs.length ≤ 100000) (hfresh : ∀ k, W.heap.size ≤ k → ok k) :
    ∃ v1 w1, (Builtin.append_ #[22, 22] 22 #[v, .slice (some ⟨W.heap.size, 0, none⟩) 1 1]).run Tryd.prog (W.alloc (.cells #[.int .i64 p.f0, .int .i64 p.f1, .string p.f2] 32)) = .ok v1 w1 ∧ Kd.R k32 32 w1 base ok v1 (xs ++ [p]) ∧ W.grownBy w1 v.ownBlock ∧ Below base W w1 := by
  obtain ⟨h0, inner, hown, hr⟩ := HO
  obtain ⟨i0, hi, hzz⟩ := Option.map_eq_some_iff.1 info32
  simp only [Prod.mk.injEq] at hzz
  obtain ⟨hz0, hz1, hz2⟩ := hzz
  obtain ⟨v1, w1, hrun, hown1, hg, _, hat⟩ := run_append_own_at (P := Tryd.prog) (W.alloc (.cells #[.int .i64 p.f0, .int .i64 p.f1, .string p.f2] 32)) base 22 22 32 i0 _ 3 32 Tryd.underlying22 hi hz0 hz1 hz2 rfl (by decide) v xs.length inner (hown.alloc _) ⟨W.heap.size, 0, none⟩ 1 1 [.int .i64 p.f0, .int .i64 p.f1, .string p.f2] rfl
    (by simpa using World.news_of_block (cs := #[.int .i64 p.f0, .int .i64 p.f1, .string p.f2]) (t := 32) (fr := (0, 0)) (heap_alloc_new W (.cells #[.int .i64 p.f0, .int .i64 p.f1, .string p.f2] 32))) (by intro u hu; simp at hu; rcases hu with rfl | rfl | rfl <;> rfl) (by simp only [maxLen]; omega) (by omega) (by simp; omega)
  have hg1 := World.grownBy.trans (World.grownBy_alloc W _ _) hg
  have hat1 : v1.ownBlock = v.ownBlock ∨ ∃ b, v1.ownBlock = some b ∧ W.heap.size ≤ b := by
    rcases hat with hat | hat
    · exact .inl hat
    · exact .inr ⟨_, hat, by simp⟩
  refine ⟨v1, w1, hrun, ?_, hg1, ?_⟩
  · exact Kd.R_appended h0 hr (k32_mkM W base (fun _ => False) p) (fun _ h => h.elim) hfresh hown1 hg1 hat1
  · exact ((Below.refl base W).alloc hbase _).grown hg (by simp; omega) (own_base hown)
theorem step_run {P : Program} {ops : Array Oper} {o : Oper} {a : Act} {K : Act → World → Prop} {Q : Exit → Act → World → Prop} {E : Prop} {w w1 : World} {v y v1 : Value} (hgd : o.guard = none) (s x : Operand) (t : TypeId)
    (ho : o.op = .call { callee := .builtin .append, args := #[s, x], argTypes := #[t, t] }) (hs : a.eval s = v) (hx : a.eval x = y)
    (hrun : (Builtin.append_ #[t, t] o.type #[v, y]).run P w = .ok v1 w1) (h : K (a.put o.dst v1) w1) : if Region.wanted o (yielded ops a.tmps) = true then Oper.wp P o a w K Q else E := by
  have hw : Region.wanted o (yielded ops a.tmps) = true := by simp [Region.wanted, hgd]
  rw [if_pos hw]
  unfold Oper.wp execOp
  simp only [ho, resolve, invoke, builtin, Sem.run_bind, Sem.run_pure, Result.andThen_ok, List.map_toArray, List.map_cons, List.map_nil, hs, hx, hrun]
  exact h
def takeS (out : List S32) (at_ : Int) (word comm : Bool) (r : Int) : Option (List S32 × Int × Bool × Bool) :=
  if r = 10 then some (out ++ [⟨1, at_, ⟨#[]⟩⟩], at_ + 1, false, false)
  else if comm = true ∨ r = 35 then some (out, at_ + 1, false, true)
  else if letterR r = true then
    some (((if word = true then out else out ++ [⟨0, at_, ⟨#[]⟩⟩]).set ((if word = true then out else out ++ [⟨0, at_, ⟨#[]⟩⟩]).length - 1)
      ⟨(rd_T32 (if word = true then out else out ++ [⟨0, at_, ⟨#[]⟩⟩]) (((if word = true then out else out ++ [⟨0, at_, ⟨#[]⟩⟩]).length - 1 : Nat) : Int)).f0, (rd_T32 (if word = true then out else out ++ [⟨0, at_, ⟨#[]⟩⟩]) (((if word = true then out else out ++ [⟨0, at_, ⟨#[]⟩⟩]).length - 1 : Nat) : Int)).f1, (rd_T32 (if word = true then out else out ++ [⟨0, at_, ⟨#[]⟩⟩]) (((if word = true then out else out ++ [⟨0, at_, ⟨#[]⟩⟩]).length - 1 : Nat) : Int)).f2 ++ Utf8.encode r⟩), at_ + 1, true, false)
  else if r ≠ 32 ∧ r ≠ 9 then none
  else some (out, at_ + 1, false, false)
/-- The state that a pointer of the walk's own leads to. -/
def StAt (w : World) (B base : Nat) (v : Value) (out : List S32) (at_ : Int) (word comm : Bool) : Prop :=
  w.heap[B]? = some (.cells #[v, .int .i64 at_, .bool word, .bool comm] 39 (0, 0)) ∧ Kd.R k32 32 w base (fun k => k ≠ B) v out
/-- Every iterator stands where it stood. -/
def Iters (w w' : World) : Prop := ∀ (k : Nat) (s : ByteArray) (p : Nat), w.heap[k]? = some (Obj.stringIter s p) → w'.heap[k]? = some (Obj.stringIter s p)
theorem Iters.refl (w : World) : Iters w w := fun _ _ _ h => h
theorem Iters.trans {a b c : World} (h : Iters a b) (k : Iters b c) : Iters a c := fun i s p e => k i s p (h i s p e)
theorem Iters.drewN (w : World) (n : Nat) : Iters w (w.drewN n) := fun _ _ _ h => blk_drewN h n
theorem Iters.set {w w' : World} (h : Iters w w') {B : Nat} {cs : Array Value} {t : TypeId} {f : Nat × Nat} (hb : w.heap[B]? = some (.cells cs t f)) (i : Nat) (u : Value) : Iters w (w'.setCell ⟨B, i, none⟩ u) := by
  intro k s p e
  have hne : k ≠ B := by
    rintro rfl
    rw [hb] at e
    cases e
  rw [Below.heap_setCell _ _ _ _ hne]
  exact h k s p e
theorem Iters.grown {w w1 : World} {v : Value} {xs : List S32} {base : Nat} {ok : Nat → Prop} (hR : Kd.R k32 32 w base ok v xs) (hg : w.grownBy w1 v.ownBlock) : Iters w w1 := by
  intro k s p e
  refine blk_grown e hg ?_
  intro he
  obtain ⟨cells, hc⟩ := Kd.R_typed hR k he.symm
  rw [e] at hc
  cases hc
def TakeOk (w w' : World) (B base : Nat) (out : List S32) (at_ : Int) (word comm : Bool) : Prop := ∃ v', StAt w' B base v' out at_ word comm ∧ Below base w w' ∧ Iters w w'
set_option maxHeartbeats 4000000 in
set_option maxRecDepth 1000000 in
theorem take_line (w : World) (B base : Nat) (v : Value) (out : List S32) (at_ : Int) (word comm : Bool) (hS : StAt w B base v out at_ word comm) (hbase : base ≤ w.heap.size) (hbB : base ≤ B) (hl : out.length ≤ 10000) (ha0 : 0 ≤ at_) (ha1 : at_ ≤ 10000) :
    Calls Tryd.prog 17 #[.pointer (some ⟨B, 0, none⟩), .int .i32 10] w fun e w' => e = .returned (.bool true) ∧ TakeOk w w' B base (out ++ [⟨1, at_, ⟨#[]⟩⟩]) (at_ + 1) false false := by
  obtain ⟨hb, hR⟩ := hS
  have hRD := Kd.R_drew hR
  obtain ⟨v1, w1, hrun, hR1, hg1, hB1⟩ := run_append_T base w.drew v out ⟨1, at_, ⟨#[]⟩⟩ (fun k => k ≠ B) hRD (by simpa using hbase) (by omega) (fun k hk => by have := blk_lt hb; simp at hk; omega)
  have hrun' : (Builtin.append_ #[22, 22] 22 #[v, .slice (some ⟨w.heap.size, 0, none⟩) 1 1]).run Tryd.prog (w.alloc (.cells #[.int .i64 1, .int .i64 at_, .string ⟨#[]⟩] 32)).drew = .ok v1 w1 := hrun
  have hb2 := blk_drew (blk_alloc hb (.cells #[.int .i64 1, .int .i64 at_, .string ⟨#[]⟩] 32))
  have c0 := (blk_cell hb2 0).trans (rfl : _ = some v)
  have c1 := (blk_cell hb2 1).trans (rfl : _ = some (Value.int .i64 at_))
  have d0 := (blk_cell (blk_drew hb) 0).trans (rfl : _ = some v)
  have d1 := (blk_cell (blk_drew hb) 1).trans (rfl : _ = some (Value.int .i64 at_))
  have hb1 : w1.heap[B]? = some (.cells #[v, .int .i64 at_, .bool word, .bool comm] 39 (0, 0)) := blk_grown (blk_drew hb) hg1 (fun e => (hRD.1 B e.symm) rfl)
  have e0 := (blk_cell hb1 0).trans (rfl : _ = some v)
  have f0 := blk_frozen hb1 0
  have e1 := (blk_cell hb1 1).trans (rfl : _ = some (Value.int .i64 at_))
  have f1 := blk_frozen hb1 1
  have e2 := (blk_cell hb1 2).trans (rfl : _ = some (Value.bool word))
  have f2 := blk_frozen hb1 2
  have e3 := (blk_cell hb1 3).trans (rfl : _ = some (Value.bool comm))
  have f3 := blk_frozen hb1 3
  have hwr : IntKind.i64.wrap (at_ + 1) = at_ + 1 := by rw [IntKind.wrap_i64] <;> omega
  obtain ⟨A1, c1_, ev1⟩ := Kd.R_slice hR1
  rw [List.length_append, List.length_singleton] at ev1
  subst ev1
  go_enter Tryd.func17, Tryd.ntmps17
  go_wp2
  have HR := Aside0.mk hrun'
  clear hrun hrun'
  go_region_law (refine step_run rfl (.tmp 13) (.tmp 19) 22 rfl (by simp [Act.eval, Act.put]) (by simp [Act.eval, Act.put]) HR.out ?_)
  all_goals
    go_wp2
    go_ret
    refine ⟨rfl, _, ⟨blk_put (blk_put (blk_put (blk_put hb1 0 _ rfl) 3 _ rfl) 2 _ rfl) 1 _ rfl, Kd.R_far (Kd.R_far (Kd.R_far (Kd.R_far hR1 (fun _ h => h) _) (fun _ h => h) _) (fun _ h => h) _) (fun _ h => h) _⟩, ?_, ?_⟩
    · exact (((((Below.drew (Below.refl base w)).trans hB1).setCell (p := ⟨B, 0, none⟩) hbB _).setCell (p := ⟨B, 3, none⟩) hbB _).setCell (p := ⟨B, 2, none⟩) hbB _).setCell (p := ⟨B, 1, none⟩) hbB _
    · exact ((((Iters.trans (Iters.drewN w 1) (Iters.grown hRD hg1)).set hb 0 _).set hb 3 _).set hb 2 _).set hb 1 _
theorem Iters.below {w w' : World} (h : Below w.heap.size w w') : Iters w w' := fun k s p e => (h.block k (blk_lt e)).trans e
theorem Below.lower' {a : Nat} {w w' : World} (h : Below w.heap.size w w') (hab : a ≤ w.heap.size) : Below a w w' := below_then (Below.refl a w) hab h
def RestOk (r : Int) (w w' : World) (B base : Nat) (out : List S32) (at_ : Int) (word : Bool) (e : Ending) : Prop := (¬ (r ≠ 32 ∧ r ≠ 9) ∧ e = .returned (.bool true) ∧ TakeOk w w' B base out (at_ + 1) false false) ∨ ((r ≠ 32 ∧ r ≠ 9) ∧ e = .returned (.bool false) ∧ TakeOk w w' B base out at_ word false)
set_option maxHeartbeats 4000000 in
set_option maxRecDepth 1000000 in
theorem take_comm (r : Int) (w : World) (B base : Nat) (v : Value) (out : List S32) (at_ : Int) (word comm : Bool) (hS : StAt w B base v out at_ word comm) (hr : r ≠ 10) (hc : comm = true ∨ r = 35) (hbase : base ≤ w.heap.size) (hbB : base ≤ B) (ha0 : 0 ≤ at_) (ha1 : at_ ≤ 10000) :
    Calls Tryd.prog 17 #[.pointer (some ⟨B, 0, none⟩), .int .i32 r] w fun e w' => e = .returned (.bool true) ∧ TakeOk w w' B base out (at_ + 1) false true := by
  obtain ⟨hb, hR⟩ := hS
  have e1 := (blk_cell hb 1).trans (rfl : _ = some (Value.int .i64 at_))
  have f1 := blk_frozen hb 1
  have e2 := (blk_cell hb 2).trans (rfl : _ = some (Value.bool word))
  have f2 := blk_frozen hb 2
  have e3 := (blk_cell hb 3).trans (rfl : _ = some (Value.bool comm))
  have f3 := blk_frozen hb 3
  have hwr : IntKind.i64.wrap (at_ + 1) = at_ + 1 := by rw [IntKind.wrap_i64] <;> omega
  have h10 : (r == 10) = false := by
    rw [beq_eq_false_iff_ne]
    exact hr
  by_cases hcc : comm = true
  · subst hcc
    go_enter Tryd.func17, Tryd.ntmps17
    go_wp2
    go_ret
    refine ⟨rfl, v, ⟨blk_put (blk_put (blk_put hb 3 _ rfl) 2 _ rfl) 1 _ rfl, Kd.R_far (Kd.R_far (Kd.R_far hR (fun _ h => h) _) (fun _ h => h) _) (fun _ h => h) _⟩, ?_, ?_⟩
    · exact (((Below.refl base w).setCell (p := ⟨B, 3, none⟩) hbB _).setCell (p := ⟨B, 2, none⟩) hbB _).setCell (p := ⟨B, 1, none⟩) hbB _
    · exact (((Iters.refl w).set hb 3 _).set hb 2 _).set hb 1 _
  · have hcf : comm = false := by simpa using hcc
    subst hcf
    have h35 : r = 35 := by
      rcases hc with h | h
      · cases h
      · exact h
    subst h35
    go_enter Tryd.func17, Tryd.ntmps17
    go_wp2
    go_ret
    refine ⟨rfl, v, ⟨blk_put (blk_put (blk_put hb 3 _ rfl) 2 _ rfl) 1 _ rfl, Kd.R_far (Kd.R_far (Kd.R_far hR (fun _ h => h) _) (fun _ h => h) _) (fun _ h => h) _⟩, ?_, ?_⟩
    · exact (((Below.refl base w).setCell (p := ⟨B, 3, none⟩) hbB _).setCell (p := ⟨B, 2, none⟩) hbB _).setCell (p := ⟨B, 1, none⟩) hbB _
    · exact (((Iters.refl w).set hb 3 _).set hb 2 _).set hb 1 _
set_option maxHeartbeats 4000000 in
set_option maxRecDepth 1000000 in
theorem take_rest (r : Int) (w : World) (B base : Nat) (v : Value) (out : List S32) (at_ : Int) (word : Bool) (hS : StAt w B base v out at_ word false) (hr0 : 0 ≤ r) (hr1 : r ≤ 1114111) (hr : r ≠ 10) (h35 : r ≠ 35) (hL : letterR r = false) (hbase : base ≤ w.heap.size) (hbB : base ≤ B) (ha0 : 0 ≤ at_) (ha1 : at_ ≤ 10000) :
    Calls Tryd.prog 17 #[.pointer (some ⟨B, 0, none⟩), .int .i32 r] w fun e w' => RestOk r w w' B base out at_ word e := by
  obtain ⟨hb, hR⟩ := hS
  have e3 := (blk_cell hb 3).trans (rfl : _ = some (Value.bool false))
  have hwr : IntKind.i64.wrap (at_ + 1) = at_ + 1 := by rw [IntKind.wrap_i64] <;> omega
  have h10 : (r == 10) = false := by
    rw [beq_eq_false_iff_ne]
    exact hr
  have h35' : (r == 35) = false := by
    rw [beq_eq_false_iff_ne]
    exact h35
  have hlet : lex_letter.f r = some false := by rw [letter_eq r hr0 hr1, hL]
  by_cases h32 : r = 32
  · subst h32
    go_enter Tryd.func17, Tryd.ntmps17
    go_wp2_with (go_at_call 24; refine (lex_letter.calls _ false _ hlet).mono ?_; rintro e w2 ⟨rfl, hb2⟩; have g1 := blk_below hb hb2; have e1 := (blk_cell g1 1).trans (rfl : _ = some (Value.int .i64 at_)); have f1 := blk_frozen g1 1; have e2 := (blk_cell g1 2).trans (rfl : _ = some (Value.bool word)); have f2 := blk_frozen g1 2)
    go_ret
    refine .inl ⟨by simp, rfl, v, ⟨blk_put (blk_put g1 2 _ rfl) 1 _ rfl, Kd.R_far (Kd.R_far (Kd.R_below hR hb2) (fun _ h => h) _) (fun _ h => h) _⟩, ?_, ?_⟩
    · exact ((Below.lower' hb2 hbase).setCell (p := ⟨B, 2, none⟩) hbB _).setCell (p := ⟨B, 1, none⟩) hbB _
    · exact ((Iters.below hb2).set hb 2 _).set hb 1 _
  · have h32' : (r != 32) = true := by
      rw [bne_iff_ne]
      exact h32
    have h32'' : (r == 32) = false := by
      rw [beq_eq_false_iff_ne]
      exact h32
    by_cases h9 : r = 9
    · subst h9
      go_enter Tryd.func17, Tryd.ntmps17
      go_wp2_with (go_at_call 24; refine (lex_letter.calls _ false _ hlet).mono ?_; rintro e w2 ⟨rfl, hb2⟩; have g1 := blk_below hb hb2; have e1 := (blk_cell g1 1).trans (rfl : _ = some (Value.int .i64 at_)); have f1 := blk_frozen g1 1; have e2 := (blk_cell g1 2).trans (rfl : _ = some (Value.bool word)); have f2 := blk_frozen g1 2)
      go_ret
      refine .inl ⟨by simp, rfl, v, ⟨blk_put (blk_put g1 2 _ rfl) 1 _ rfl, Kd.R_far (Kd.R_far (Kd.R_below hR hb2) (fun _ h => h) _) (fun _ h => h) _⟩, ?_, ?_⟩
      · exact ((Below.lower' hb2 hbase).setCell (p := ⟨B, 2, none⟩) hbB _).setCell (p := ⟨B, 1, none⟩) hbB _
      · exact ((Iters.below hb2).set hb 2 _).set hb 1 _
    · have h9' : (r != 9) = true := by
        rw [bne_iff_ne]
        exact h9
      have h9'' : (r == 9) = false := by
        rw [beq_eq_false_iff_ne]
        exact h9
      go_enter Tryd.func17, Tryd.ntmps17
      go_wp2_with (go_at_call 24; refine (lex_letter.calls _ false _ hlet).mono ?_; rintro e w2 ⟨rfl, hb2⟩; have g1 := blk_below hb hb2)
      go_ret
      exact .inr ⟨⟨h32, h9⟩, rfl, v, ⟨g1, Kd.R_below hR hb2⟩, Below.lower' hb2 hbase, Iters.below hb2⟩
/-- The last token, with more behind its text. -/
def addLast (out : List S32) (s : ByteArray) : List S32 := out.set (out.length - 1) ⟨(out.getD (out.length - 1) z32).f0, (out.getD (out.length - 1) z32).f1, (out.getD (out.length - 1) z32).f2 ++ s⟩
theorem last_put {W : World} {base : Nat} {ok : Nat → Prop} {g cap n : Nat} {xs : List S32} (hR : Kd.R k32 32 W base ok (.slice (some ⟨g, 0, none⟩) n cap) xs) (hn : n = xs.length) (h0 : 0 < xs.length) (s : ByteArray) :
    W.cell? ⟨g, (xs.length - 1) * 3 + 2, none⟩ = some (.string (xs.getD (xs.length - 1) z32).f2) ∧ W.frozen? ⟨g, (xs.length - 1) * 3 + 2, none⟩ = false ∧
      Kd.R k32 32 (W.setCell ⟨g, (xs.length - 1) * 3 + 2, none⟩ (.string ((xs.getD (xs.length - 1) z32).f2 ++ s))) base ok (.slice (some ⟨g, 0, none⟩) n cap) (addLast xs s) := by
  obtain ⟨c, hcl, hM, hcc, hfr⟩ := Kd.R_elem hR z32 ((xs.length - 1 : Nat) : Int) (by omega) (by omega)
  obtain rfl := k32_openM hM
  have h2 := hcc 2 _ rfl
  have f2 := hfr 2
  have HP := (Kd.R_seg hR ((xs.length - 1 : Nat) : Int) (by omega) (by omega) (seg := [.string ((xs.getD (xs.length - 1) z32).f2 ++ s)]) (j := 2) hcl hcc (show 3 ≤ 3 from by decide) (x' := (⟨(xs.getD (xs.length - 1) z32).f0, (xs.getD (xs.length - 1) z32).f1, (xs.getD (xs.length - 1) z32).f2 ++ s⟩ : S32)) (k32_mkM _ _ _ (⟨(xs.getD (xs.length - 1) z32).f0, (xs.getD (xs.length - 1) z32).f1, (xs.getD (xs.length - 1) z32).f2 ++ s⟩ : S32)) (fun _ hk => hk)).1
  exact ⟨h2, f2, HP⟩
set_option maxHeartbeats 4000000 in
set_option maxRecDepth 1000000 in
theorem take_more (r : Int) (w : World) (B base : Nat) (v : Value) (out : List S32) (at_ : Int) (hS : StAt w B base v out at_ true false) (hr0 : 0 ≤ r) (hr1 : r ≤ 1114111) (hr : r ≠ 10) (h35 : r ≠ 35) (hL : letterR r = true) (hbase : base ≤ w.heap.size) (hbB : base ≤ B) (ha0 : 0 ≤ at_) (ha1 : at_ ≤ 10000) (hl : out.length ≤ 10000) (hl0 : 0 < out.length) (hz : (out.getD (out.length - 1) z32).f2.size ≤ 10000) :
    Calls Tryd.prog 17 #[.pointer (some ⟨B, 0, none⟩), .int .i32 r] w fun e w' => e = .returned (.bool true) ∧ TakeOk w w' B base (addLast out (Utf8.encode r)) (at_ + 1) true false := by
  obtain ⟨hb, hR⟩ := hS
  have e3 := (blk_cell hb 3).trans (rfl : _ = some (Value.bool false))
  have hwr : IntKind.i64.wrap (at_ + 1) = at_ + 1 := by rw [IntKind.wrap_i64] <;> omega
  have h10 : (r == 10) = false := by
    rw [beq_eq_false_iff_ne]
    exact hr
  have h35' : (r == 35) = false := by
    rw [beq_eq_false_iff_ne]
    exact h35
  have hlet : lex_letter.f r = some true := by rw [letter_eq r hr0 hr1, hL]
  obtain ⟨g, cap, ev, hbg, hgl, cells, hcg⟩ := Kd.R_form hR hl0
  obtain ⟨n, hn⟩ : ∃ n, n = out.length := ⟨_, rfl⟩
  rw [← hn] at ev
  subst ev
  have hgB : g ≠ B := hR.1 g rfl
  rw [← hn] at hl hl0
  have hw1 : IntKind.i64.wrap ((n : Int) - 1) = ((n - 1 : Nat) : Int) := by rw [IntKind.wrap_i64] <;> omega
  have i0 : (0 : Int) ≤ ((n - 1 : Nat) : Int) := by omega
  have i1 : ((n - 1 : Nat) : Int) < (n : Int) := by omega
  obtain ⟨E, hE⟩ : ∃ E, E = Utf8.encode r := ⟨_, rfl⟩
  have hEl : E.size ≤ 4 := by
    rw [hE]
    unfold Utf8.encode
    dsimp only
    repeat' split
    all_goals first | exact (by decide : (1 : Nat) ≤ 4) | exact (by decide : (2 : Nat) ≤ 4) | exact (by decide : (3 : Nat) ≤ 4) | exact (by decide : (4 : Nat) ≤ 4)
  have hconv := fun W => run_convert_int_string (P := Tryd.prog) W 21 9 .i32 r (by kernel_rfl) Tryd.underlying9
  obtain ⟨F, hF⟩ : ∃ F, F = (out.getD (n - 1) z32).f2 := ⟨_, rfl⟩
  rw [← hn, ← hF] at hz
  have HN := Aside0.mk hn
  have HE := Aside0.mk hE
  have HF := Aside0.mk hF
  clear hn hE hF
  go_enter Tryd.func17, Tryd.ntmps17
  go_wp2_with (go_at_call 24; refine (lex_letter.calls _ true _ hlet).mono ?_; rintro e w2 ⟨rfl, hb2⟩; have g1 := blk_below hb hb2; have e2 := (blk_cell g1 2).trans (rfl : _ = some (Value.bool true)))
  have hR2 := Kd.R_drew (Kd.R_below hR hb2)
  obtain ⟨x2, y2, hP⟩ := last_put hR2 HN.out (by have := HN.out; omega) E
  rw [← HN.out, ← HF.out] at x2 hP
  rw [← HN.out] at y2
  have c0 := (blk_cell (blk_drew g1) 0).trans (rfl : _ = some (Value.slice (some ⟨g, 0, none⟩) n cap))
  have hsz : (9223372036854775807 < F.size + (Utf8.encode r).size) = False := eq_false (by rw [← HE.out]; omega)
  have HP := Aside0.mk hP
  clear hP hR2
  go_region
  have g3 : ((w2.setCell ⟨g, (n - 1) * 3 + 2, none⟩ (.string (F ++ Utf8.encode r))).drew).heap[B]? = some (.cells #[.slice (some ⟨g, 0, none⟩) n cap, .int .i64 at_, .bool true, .bool false] 39 (0, 0)) := blk_drew ((Below.heap_setCell _ _ _ _ (fun e => hgB e.symm)).trans g1)
  have HP3 : Kd.R k32 32 ((w2.setCell ⟨g, (n - 1) * 3 + 2, none⟩ (.string (F ++ Utf8.encode r))).drew) base (fun k => k ≠ B) (.slice (some ⟨g, 0, none⟩) n cap) (addLast out (Utf8.encode r)) := by
    have := HP.out
    rw [HE.out] at this
    exact this
  have HB3 : Below base w ((w2.setCell ⟨g, (n - 1) * 3 + 2, none⟩ (.string (F ++ Utf8.encode r))).drew) := Below.drew ((Below.lower' hb2 hbase).setCell (p := ⟨g, (n - 1) * 3 + 2, none⟩) hbg _)
  have HI3 : Iters w ((w2.setCell ⟨g, (n - 1) * 3 + 2, none⟩ (.string (F ++ Utf8.encode r))).drew) := Iters.trans ((Iters.below hb2).set hcg _ _) (Iters.drewN _ 1)
  have HP4 := Aside0.mk HP3
  have HB4 := Aside0.mk HB3
  have HI4 := Aside0.mk HI3
  clear HP3 HB3 HI3
  generalize (w2.setCell ⟨g, (n - 1) * 3 + 2, none⟩ (.string (F ++ Utf8.encode r))).drew = w3 at g3 HP4 HB4 HI4 ⊢
  have e1 := (blk_cell g3 1).trans (rfl : _ = some (Value.int .i64 at_))
  have f1 := blk_frozen g3 1
  have e2' := (blk_cell g3 2).trans (rfl : _ = some (Value.bool true))
  have f2 := blk_frozen g3 2
  go_wp2
  go_ret
  refine ⟨rfl, _, ⟨blk_put (blk_put g3 2 _ rfl) 1 _ rfl, Kd.R_far (Kd.R_far HP4.out (fun _ h => h) _) (fun _ h => h) _⟩, ?_, ?_⟩
  · exact (HB4.out.setCell (p := ⟨B, 2, none⟩) hbB _).setCell (p := ⟨B, 1, none⟩) hbB _
  · exact (HI4.out.set hb 2 _).set hb 1 _
set_option maxHeartbeats 8000000 in
set_option maxRecDepth 1000000 in
theorem take_new (r : Int) (w : World) (B base : Nat) (v : Value) (out : List S32) (at_ : Int) (hS : StAt w B base v out at_ false false) (hr0 : 0 ≤ r) (hr1 : r ≤ 1114111) (hr : r ≠ 10) (h35 : r ≠ 35) (hL : letterR r = true) (hbase : base ≤ w.heap.size) (hbB : base ≤ B) (ha0 : 0 ≤ at_) (ha1 : at_ ≤ 10000) (hl : out.length ≤ 10000) :
    Calls Tryd.prog 17 #[.pointer (some ⟨B, 0, none⟩), .int .i32 r] w fun e w' => e = .returned (.bool true) ∧ TakeOk w w' B base (addLast (out ++ [⟨0, at_, ⟨#[]⟩⟩]) (Utf8.encode r)) (at_ + 1) true false := by
  obtain ⟨hb, hR⟩ := hS
  have e3 := (blk_cell hb 3).trans (rfl : _ = some (Value.bool false))
  have hwr : IntKind.i64.wrap (at_ + 1) = at_ + 1 := by rw [IntKind.wrap_i64] <;> omega
  have h10 : (r == 10) = false := by
    rw [beq_eq_false_iff_ne]
    exact hr
  have h35' : (r == 35) = false := by
    rw [beq_eq_false_iff_ne]
    exact h35
  have hlet : lex_letter.f r = some true := by rw [letter_eq r hr0 hr1, hL]
  obtain ⟨E, hE⟩ : ∃ E, E = Utf8.encode r := ⟨_, rfl⟩
  have hEl : E.size ≤ 4 := by
    rw [hE]
    unfold Utf8.encode
    dsimp only
    repeat' split
    all_goals first | exact (by decide : (1 : Nat) ≤ 4) | exact (by decide : (2 : Nat) ≤ 4) | exact (by decide : (3 : Nat) ≤ 4) | exact (by decide : (4 : Nat) ≤ 4)
  have hconv := fun W => run_convert_int_string (P := Tryd.prog) W 21 9 .i32 r (by kernel_rfl) Tryd.underlying9
  have hw1 : IntKind.i64.wrap (((out.length + 1 : Nat) : Int) - 1) = (out.length : Int) := by rw [IntKind.wrap_i64] <;> omega
  have i0 : (0 : Int) ≤ (out.length : Int) := by omega
  have i1 : (out.length : Int) < ((out.length + 1 : Nat) : Int) := by omega
  have hw1' : IntKind.i64.wrap ((out.length : Int) + 1 - 1) = (out.length : Int) := by rw [IntKind.wrap_i64] <;> omega
  have i1' : (out.length : Int) < (out.length : Int) + 1 := by omega
  have hsz : (9223372036854775807 < (⟨#[]⟩ : ByteArray).size + (Utf8.encode r).size) = False := eq_false (by
    rw [← hE, show (⟨#[]⟩ : ByteArray).size = 0 from rfl]
    omega)
  have hsz' : (9223372036854775807 < (Utf8.encode r).size) = False := eq_false (by
    rw [← hE]
    omega)
  have HE := Aside0.mk hE
  clear hE
  go_enter Tryd.func17, Tryd.ntmps17
  go_wp2_with (go_at_call 24; refine (lex_letter.calls _ true _ hlet).mono ?_; rintro e w2 ⟨rfl, hb2⟩; have g1 := blk_below hb hb2; have e2 := (blk_cell g1 2).trans (rfl : _ = some (Value.bool false)))
  have hR2 := Kd.R_below hR hb2
  have hRD := Kd.R_drew hR2
  obtain ⟨v1, w1, hrun, hR1, hg1, hB1⟩ := run_append_T base w2.drew v out ⟨0, at_, ⟨#[]⟩⟩ (fun k => k ≠ B) hRD (by have := hb2.size; simpa using Nat.le_trans hbase this) (by omega) (fun k hk => by have := blk_lt g1; simp at hk; omega)
  obtain ⟨g, c1_, ev1, hbg, hgl, cells, hcg⟩ := Kd.R_form hR1 (by simp)
  have hgB : g ≠ B := hR1.1 g (by rw [ev1]; rfl)
  rw [List.length_append, List.length_singleton] at ev1
  subst ev1
  have hrun' : (Builtin.append_ #[22, 22] 22 #[v, .slice (some ⟨w2.heap.size, 0, none⟩) 1 1]).run Tryd.prog (w2.alloc (.cells #[.int .i64 0, .int .i64 at_, .string ⟨#[]⟩] 32)).drew = .ok (.slice (some ⟨g, 0, none⟩) (out.length + 1) c1_) w1 := hrun
  have b2 := blk_drew (blk_alloc g1 (.cells #[.int .i64 0, .int .i64 at_, .string ⟨#[]⟩] 32))
  have c0 := (blk_cell b2 0).trans (rfl : _ = some v)
  have c1 := (blk_cell b2 1).trans (rfl : _ = some (Value.int .i64 at_))
  have d0 := (blk_cell (blk_drew g1) 0).trans (rfl : _ = some v)
  have d1 := (blk_cell (blk_drew g1) 1).trans (rfl : _ = some (Value.int .i64 at_))
  have hb1 : w1.heap[B]? = some (.cells #[v, .int .i64 at_, .bool false, .bool false] 39 (0, 0)) := blk_grown (blk_drew g1) hg1 (fun e => (hRD.1 B e.symm) rfl)
  have k0 := (blk_cell hb1 0).trans (rfl : _ = some v)
  have f0 := blk_frozen hb1 0
  have HR := Aside0.mk hrun'
  have HI1 : Iters w w1 := Iters.trans (Iters.below hb2) (Iters.trans (Iters.drewN w2 1) (Iters.grown hRD hg1))
  have HB1 : Below base w w1 := (Below.drew (Below.lower' hb2 hbase)).trans hB1
  have HI := Aside0.mk HI1
  have HBB := Aside0.mk HB1
  have HRR := Aside0.mk hR1
  clear hrun hrun' HI1 HB1 hR1
  go_region_law (refine step_run rfl (.tmp 50) (.tmp 56) 22 rfl (by simp [Act.eval]) (by simp [Act.eval]) HR.out ?_)
  all_goals
    go_wp2
  all_goals
    have m1 := blk_put hb1 0 (.slice (some ⟨g, 0, none⟩) (out.length + 1) c1_) rfl
    have HR3 := Aside0.mk (Kd.R_far (p := ⟨B, 0, none⟩) HRR.out (fun _ h => h) (.slice (some ⟨g, 0, none⟩) (out.length + 1) c1_))
    have HB3 := Aside0.mk (HBB.out.setCell (p := ⟨B, 0, none⟩) hbB (.slice (some ⟨g, 0, none⟩) (out.length + 1) c1_))
    have HI3 := Aside0.mk (HI.out.set hb 0 (.slice (some ⟨g, 0, none⟩) (out.length + 1) c1_))
    have hcg3 : (w1.setCell ⟨B, 0, none⟩ (.slice (some ⟨g, 0, none⟩) (out.length + 1) c1_)).heap[g]? = some (.cells cells 32 (0, 0)) := (Below.heap_setCell _ _ _ _ hgB).trans hcg
    generalize w1.setCell ⟨B, 0, none⟩ (.slice (some ⟨g, 0, none⟩) (out.length + 1) c1_) = w3 at m1 HR3 HB3 HI3 hcg3 ⊢
    clear HR HRR HBB HI k0 f0 c0 c1 d0 d1 b2
    obtain ⟨x2, y2, hP⟩ := last_put (Kd.R_drew HR3.out) (by simp) (by simp) E
    have hlen : (out ++ [(⟨0, at_, ⟨#[]⟩⟩ : S32)]).length - 1 = out.length := by simp
    have hget : (out ++ [(⟨0, at_, ⟨#[]⟩⟩ : S32)]).getD out.length z32 = ⟨0, at_, ⟨#[]⟩⟩ := by simp [List.getD_eq_getElem?_getD]
    rw [hlen, hget] at x2 hP
    rw [hlen] at y2
    have q0 := (blk_cell (blk_drew m1) 0).trans (rfl : _ = some (Value.slice (some ⟨g, 0, none⟩) (out.length + 1) c1_))
    have HP := Aside0.mk hP
    have HL := Aside0.mk hlen
    clear hP hlen hget
  all_goals go_region
  all_goals
    have g3 : ((w3.setCell ⟨g, out.length * 3 + 2, none⟩ (.string (⟨#[]⟩ ++ Utf8.encode r))).drew).heap[B]? = some (.cells #[.slice (some ⟨g, 0, none⟩) (out.length + 1) c1_, .int .i64 at_, .bool false, .bool false] 39 (0, 0)) := blk_drew ((Below.heap_setCell _ _ _ _ (fun e => hgB e.symm)).trans m1)
    have HP4 := Aside0.mk (show Kd.R k32 32 ((w3.setCell ⟨g, out.length * 3 + 2, none⟩ (.string (⟨#[]⟩ ++ Utf8.encode r))).drew) base (fun k => k ≠ B) (.slice (some ⟨g, 0, none⟩) (out.length + 1) c1_) (addLast (out ++ [⟨0, at_, ⟨#[]⟩⟩]) (Utf8.encode r)) by
      have := HP.out
      rw [HE.out] at this
      exact this)
    have HB4 := Aside0.mk (show Below base w ((w3.setCell ⟨g, out.length * 3 + 2, none⟩ (.string (⟨#[]⟩ ++ Utf8.encode r))).drew) from Below.drew (HB3.out.setCell (p := ⟨g, out.length * 3 + 2, none⟩) hbg _))
    have HI4 := Aside0.mk (show Iters w ((w3.setCell ⟨g, out.length * 3 + 2, none⟩ (.string (⟨#[]⟩ ++ Utf8.encode r))).drew) from Iters.trans (Iters.trans HI3.out ((Iters.refl w3).set hcg3 _ _)) (Iters.drewN _ 1))
    generalize (w3.setCell ⟨g, out.length * 3 + 2, none⟩ (.string (⟨#[]⟩ ++ Utf8.encode r))).drew = w4 at g3 HP4 HB4 HI4 ⊢
    have e1 := (blk_cell g3 1).trans (rfl : _ = some (Value.int .i64 at_))
    have f1 := blk_frozen g3 1
    have e2' := (blk_cell g3 2).trans (rfl : _ = some (Value.bool false))
    have f2 := blk_frozen g3 2
    go_wp2
    go_ret
    refine ⟨rfl, _, ⟨blk_put (blk_put g3 2 _ rfl) 1 _ rfl, Kd.R_far (Kd.R_far HP4.out (fun _ h => h) _) (fun _ h => h) _⟩, ?_, ?_⟩
    · exact (HB4.out.setCell (p := ⟨B, 2, none⟩) hbB _).setCell (p := ⟨B, 1, none⟩) hbB _
    · exact (HI4.out.set hb 2 _).set hb 1 _
structure LSt where
  out : List S32
  at_ : Int
  word : Bool
  comm : Bool
/-- One character more; none: it has no meaning. -/
def takeF (st : LSt) (r : Int) : Option LSt :=
  if r = 10 then some ⟨st.out ++ [⟨1, st.at_, ⟨#[]⟩⟩], st.at_ + 1, false, false⟩
  else if st.comm = true ∨ r = 35 then some ⟨st.out, st.at_ + 1, false, true⟩
  else if letterR r = true then some ⟨addLast (if st.word = true then st.out else st.out ++ [⟨0, st.at_, ⟨#[]⟩⟩]) (Utf8.encode r), st.at_ + 1, true, false⟩
  else if r ≠ 32 ∧ r ≠ 9 then none
  else some ⟨st.out, st.at_ + 1, false, false⟩
structure LSt.Ok (st : LSt) : Prop where
  a0 : 0 ≤ st.at_
  len : (st.out.length : Int) ≤ st.at_
  word : st.word = true → 0 < st.out.length
  size : ((st.out.getD (st.out.length - 1) z32).f2.size : Int) ≤ st.at_
theorem addLast_length (out : List S32) (s : ByteArray) : (addLast out s).length = out.length := by unfold addLast; rw [List.length_set]
theorem addLast_last (out : List S32) (s : ByteArray) (h : 0 < out.length) : (addLast out s).getD (out.length - 1) z32 = ⟨(out.getD (out.length - 1) z32).f0, (out.getD (out.length - 1) z32).f1, (out.getD (out.length - 1) z32).f2 ++ s⟩ := by
  unfold addLast
  rw [List.getD_eq_getElem?_getD, List.getElem?_set_self (by omega)]
  rfl
theorem letter_one {r : Int} (h : letterR r = true) : (Utf8.encode r).size = 1 := by
  unfold letterR at h
  rw [decide_eq_true_iff] at h
  have hv : Utf8.valid r = true := by
    unfold Utf8.valid
    simp
    omega
  unfold Utf8.encode
  dsimp only
  rw [if_pos hv, if_pos (by omega)]
  rfl
theorem takeF_ok {st st' : LSt} {r : Int} (h : st.Ok) (ht : takeF st r = some st') : st'.Ok ∧ st'.at_ = st.at_ + 1 := by
  obtain ⟨h0, h1, h2, h3⟩ := h
  unfold takeF at ht
  by_cases c1 : r = 10
  · rw [if_pos c1] at ht
    obtain rfl := Option.some.inj ht
    refine ⟨⟨by dsimp only; omega, by simp; omega, (fun h => by cases h), ?_⟩, rfl⟩
    simp [List.getD_eq_getElem?_getD]
    have : (⟨#[]⟩ : ByteArray).size = 0 := rfl
    omega
  · rw [if_neg c1] at ht
    by_cases c2 : st.comm = true ∨ r = 35
    · rw [if_pos c2] at ht
      obtain rfl := Option.some.inj ht
      exact ⟨⟨by dsimp only; omega, by dsimp only; omega, (fun h => by cases h), by dsimp only; omega⟩, rfl⟩
    · rw [if_neg c2] at ht
      by_cases c3 : letterR r = true
      · rw [if_pos c3] at ht
        obtain rfl := Option.some.inj ht
        have h1' := letter_one c3
        cases hw : st.word
        · have hL : (st.out ++ [(⟨0, st.at_, ⟨#[]⟩⟩ : S32)]).length - 1 = st.out.length := by simp
          refine ⟨⟨by dsimp only; omega, ?_, ?_, ?_⟩, rfl⟩
          · dsimp only
            rw [if_neg (by decide), addLast_length, List.length_append, List.length_singleton]
            omega
          · intro _
            dsimp only
            rw [if_neg (by decide), addLast_length, List.length_append, List.length_singleton]
            omega
          · dsimp only
            rw [if_neg (by decide), addLast_length, addLast_last _ _ (by simp)]
            dsimp only
            rw [ByteArray.size_append, h1', hL]
            simp [List.getD_eq_getElem?_getD]
            have : (⟨#[]⟩ : ByteArray).size = 0 := rfl
            omega
        · have := h2 hw
          refine ⟨⟨by dsimp only; omega, ?_, ?_, ?_⟩, rfl⟩
          · dsimp only
            rw [if_pos rfl, addLast_length]
            omega
          · intro _
            dsimp only
            rw [if_pos rfl, addLast_length]
            omega
          · dsimp only
            rw [if_pos rfl, addLast_length, addLast_last _ _ this]
            dsimp only
            rw [ByteArray.size_append, h1']
            omega
      · rw [if_neg c3] at ht
        by_cases c4 : r ≠ 32 ∧ r ≠ 9
        · rw [if_pos c4] at ht
          cases ht
        · rw [if_neg c4] at ht
          obtain rfl := Option.some.inj ht
          exact ⟨⟨by dsimp only; omega, by dsimp only; omega, (fun h => by cases h), by dsimp only; omega⟩, rfl⟩
def TakePost (w w' : World) (B base : Nat) (st : LSt) (r : Int) (e : Ending) : Prop :=
  match takeF st r with
  | some st' => e = .returned (.bool true) ∧ TakeOk w w' B base st'.out st'.at_ st'.word st'.comm
  | none => e = .returned (.bool false) ∧ TakeOk w w' B base st.out st.at_ st.word st.comm
theorem take_calls (r : Int) (w : World) (B base : Nat) (v : Value) (st : LSt) (hS : StAt w B base v st.out st.at_ st.word st.comm) (hok : st.Ok) (ha : st.at_ ≤ 10000) (hr0 : 0 ≤ r) (hr1 : r ≤ 1114111) (hbase : base ≤ w.heap.size) (hbB : base ≤ B) :
    Calls Tryd.prog 17 #[.pointer (some ⟨B, 0, none⟩), .int .i32 r] w fun e w' => TakePost w w' B base st r e := by
  obtain ⟨h0, h1, h2, h3⟩ := hok
  obtain ⟨out, at_, word, comm⟩ := st
  dsimp only at hS h0 h1 h2 h3 ha
  unfold TakePost takeF
  dsimp only
  by_cases c1 : r = 10
  · subst c1
    rw [if_pos rfl]
    exact take_line w B base v out at_ word comm hS hbase hbB (by omega) h0 ha
  · rw [if_neg c1]
    by_cases c2 : comm = true ∨ r = 35
    · rw [if_pos c2]
      exact take_comm r w B base v out at_ word comm hS c1 c2 hbase hbB h0 ha
    · rw [if_neg c2]
      have hcf : comm = false := by
        cases comm
        · rfl
        · exact absurd (.inl rfl) c2
      have h35 : r ≠ 35 := fun h => c2 (.inr h)
      subst hcf
      by_cases c3 : letterR r = true
      · rw [if_pos c3]
        dsimp only
        cases word
        · rw [if_neg (by decide)]
          exact take_new r w B base v out at_ hS hr0 hr1 c1 h35 c3 hbase hbB h0 ha (by omega)
        · rw [if_pos rfl]
          exact take_more r w B base v out at_ hS hr0 hr1 c1 h35 c3 hbase hbB h0 ha (by omega) (h2 rfl) (by omega)
      · rw [if_neg c3]
        refine (take_rest r w B base v out at_ word hS hr0 hr1 c1 h35 (by simpa using c3) hbase hbB h0 ha).mono ?_
        rintro e w' (⟨hn, he, hT⟩ | ⟨hp, he, hT⟩)
        · rw [if_neg hn]
          exact ⟨he, hT⟩
        · rw [if_pos hp]
          exact ⟨he, hT⟩
def lexGo (s : ByteArray) : Nat → Nat → LSt → Except Int LSt
  | 0, _, st => .ok st
  | k + 1, pos, st => if pos < s.size then (if (Utf8.decode s pos).1 = 65533 ∧ (Utf8.decode s pos).2 = 1 then .error st.at_ else match takeF st ((Utf8.decode s pos).1 : Int) with
    | none => .error st.at_
    | some st' => lexGo s k (pos + (Utf8.decode s pos).2) st') else .ok st
def st0 : LSt := ⟨[], 0, false, false⟩
def lexF (s : ByteArray) : List S32 × Int × Int :=
  if s.size > 8000 then ([], 0, 4) else match lexGo s s.size 0 st0 with
    | .error a => ([], a, 5)
    | .ok st => (st.out ++ [⟨2, st.at_, ⟨#[]⟩⟩], st.at_, 0)
theorem lexGo_end (s : ByteArray) (k pos : Nat) (st : LSt) (h : ¬ pos < s.size) : lexGo s k pos st = .ok st := by
  cases k with
  | zero => rfl
  | succ k => rw [lexGo, if_neg h]
theorem dec_max (s : ByteArray) (pos : Nat) : (Utf8.decode s pos).1 ≤ 1114111 := by
  rw [Lib.decode_at]
  exact Lib.decodeN_rune_le _ _ _ _ _ (UInt8.toNat_lt _)
theorem StAt.iter {w : World} {B base : Nat} {v : Value} {out : List S32} {at_ : Int} {word comm : Bool} (h : StAt w B base v out at_ word comm) {k : Nat} {s : ByteArray} {pos : Nat} (hk : w.heap[k]? = some (.stringIter s pos)) (pos' : Nat) : StAt (w.iterAt k s pos') B base v out at_ word comm := by
  obtain ⟨hb, hR⟩ := h
  have hne : B ≠ k := by
    rintro rfl
    rw [hb] at hk
    cases hk
  refine ⟨(Lib.iterAt_other w k B s pos' hne).trans hb, ?_⟩
  have h1 := Kd.R_far1 hR rfl (g := k) (fun e => by
    obtain ⟨cells, hc⟩ := Kd.R_typed hR k e.symm
    rw [hk] at hc
    cases hc)
  exact Kd.R_mono (Kd.R_step h1 (fun j hj _ => Lib.iterAt_other w k j s pos' hj.2)) (fun _ h => h.1)
set_option maxHeartbeats 8000000 in
set_option maxRecDepth 1000000 in
theorem lex_calls (s : ByteArray) (w : World) (hT : Tabs w) :
    Calls Tryd.prog 11 #[.string s] w fun e w' => ∃ v0_ : Value, e = .returned (.tuple #[v0_, .int .i64 (lexF s).2.1, .int .i64 (lexF s).2.2]) ∧ Kd.R k32 32 w' w.heap.size (fun _ => True) v0_ (lexF s).1 ∧ Below w.heap.size w w' := by
  by_cases hbig : s.size > 8000
  · have hF : lexF s = ([], 0, 4) := by
      unfold lexF
      rw [if_pos hbig]
    have hb1 : (s.size : Int) > 8000 := by omega
    have hb2 : (8000 : Int) < (s.size : Int) := by omega
    rw [hF]
    go_enter Tryd.func11, Tryd.ntmps11
    go_wp2
    go_ret3
    exact ⟨_, rfl, Kd.R_nil _ _ _ _ _, Below.refl _ _⟩
  · have hb1 : ¬ (s.size : Int) > 8000 := by omega
    have hb2 : ¬ (8000 : Int) < (s.size : Int) := by omega
    have HF := Aside0.mk (show lexF s = match lexGo s s.size 0 st0 with
      | .error a => ([], a, 5)
      | .ok st => (st.out ++ [⟨2, st.at_, ⟨#[]⟩⟩], st.at_, 0) by
        unfold lexF
        rw [if_neg hbig])
    have HT := Aside0.mk hT
    clear hT
    go_enter Tryd.func11, Tryd.ntmps11
    go_wp2
    go_loopw [] (fun wr => ∃ (pos fuel : Nat) (st : LSt) (v : Value), Aside0 (StAt wr w.heap.size w.heap.size v st.out st.at_ st.word st.comm) ∧ Aside0 (wr.heap[w.heap.size + 1]? = some (.stringIter s pos)) ∧ Aside0 (Below w.heap.size w wr) ∧ Aside0 (lexGo s fuel pos st = lexGo s s.size 0 st0) ∧ Aside0 (s.size ≤ pos + fuel) ∧ Aside0 st.Ok ∧ Aside0 (st.at_ ≤ pos) ∧ Aside0 (pos ≤ s.size)) (fun wr => s.size - wr.iterPos (w.heap.size + 1))
    case atStart =>
      refine ⟨0, s.size, st0, .slice none 0 0, ⟨?_, Kd.R_nil _ _ _ _ _⟩, ⟨?_⟩, ⟨((Below.refl _ w).alloc (Nat.le_refl _) _).alloc (by simp) _⟩, ⟨rfl⟩, ⟨by omega⟩, ⟨⟨by decide, by decide, (fun h => by cases h), by decide⟩⟩, ⟨by decide⟩, ⟨Nat.zero_le _⟩⟩
      · exact blk_alloc (blk_new w (.cells #[.slice none 0 0, .int .i64 0, .bool false, .bool false] 39)) _
      · have := World.iter_heap (w.alloc (.cells #[.slice none 0 0, .int .i64 0, .bool false, .bool false] 39)) s 0
        simpa using this
    case round =>
      obtain ⟨pos, fuel, st, v, hS, hit, hbw, hgo, hfu, hok, hat, hps⟩ := hrel
      have hsz : w.heap.size + 1 < wr.heap.size := (Array.getElem?_eq_some_iff.1 hit.out).1
      by_cases hp : pos < s.size
      · have hnx : ∀ ty, (Instr.next (.pointer (some ⟨w.heap.size + 1, 0, none⟩)) true ty).run Tryd.prog wr = _ := fun ty => Lib.run_next_any_at wr (w.heap.size + 1) s pos ty hit.out hp
        have hwd := dec_posA s pos
        have hmx := dec_max s pos
        have hS2 := Aside0.mk (hS.out.iter hit.out (pos + (Utf8.decode s pos).2))
        have hit2 := Aside0.mk (Lib.iterAt_heap wr (w.heap.size + 1) s pos (pos + (Utf8.decode s pos).2) hit.out)
        have hbw2 := Aside0.mk (Lib.below_iterAt hbw.out (k := w.heap.size + 1) (by omega) s (pos + (Utf8.decode s pos).2))
        have hsz2 : w.heap.size + 1 < (wr.iterAt (w.heap.size + 1) s (pos + (Utf8.decode s pos).2)).heap.size := by rw [Lib.iterAt_size]; exact hsz
        obtain ⟨f, rfl⟩ : ∃ f, fuel = f + 1 := ⟨fuel - 1, by have := hfu.out; omega⟩
        have hg1 := hgo.out
        rw [lexGo, if_pos hp] at hg1
        obtain ⟨r, hr⟩ : ∃ r, r = (Utf8.decode s pos).1 := ⟨_, rfl⟩
        obtain ⟨d, hd⟩ : ∃ d, d = (Utf8.decode s pos).2 := ⟨_, rfl⟩
        have hdg := Lib.decodeGo_extract s pos hp
        have hroom : pos + d ≤ s.size := by
          rw [hd, Pure.dec_list]
          have hne : s.data.toList.drop pos ≠ [] := by
            intro h0
            have := congrArg List.length h0
            rw [List.length_drop, List.length_nil, Array.length_toList] at this
            have : s.data.size = s.size := rfl
            omega
          have := Pure.dec_room _ hne
          rw [List.length_drop, Array.length_toList] at this
          have : s.data.size = s.size := rfl
          omega
        rw [show Utf8.decode s pos = (r, d) by rw [hr, hd]] at hdg
        rw [← hr, ← hd] at hg1
        rw [← hd] at hS2 hit2 hbw2 hsz2 hwd
        rw [← hr] at hmx
        rw [← hr, ← hd] at hnx
        clear hr hd hgo
        have hA1 : st.at_ ≤ 10000 := by have := hat.out; omega
        have hA2 : (0 : Int) ≤ (r : Int) := by omega
        have hA3 : (r : Int) ≤ 1114111 := by omega
        have hp0 : (0 : Int) ≤ (pos : Int) := by omega
        have hp1 : (pos : Int) ≤ (s.size : Int) := by omega
        have hp2 : pos ≤ s.size := by omega
        generalize wr.iterAt (w.heap.size + 1) s (pos + d) = w2 at hnx hS2 hit2 hbw2 hsz2
        by_cases hR : r = 65533
        · have hR' : ((r : Int) == 65533) = true := by
            rw [beq_iff_eq]
            omega
          by_cases hD : d = 1
          · have hD' : ((d : Int) == 1) = true := by
              rw [beq_iff_eq]
              omega
            rw [if_pos ⟨hR, hD⟩] at hg1
            clear hR hD
            go_wp2_with (go_at_call 16; refine (Tryd.utf8_DecodeRuneInString _ _ ?t0).mono ?_; (case t0 => exact (Tabs.below HT.out hbw2.out).u8); rintro e w3 ⟨rfl, hb3⟩; rw [hdg]; have hS3 := Aside0.mk (show StAt w3 w.heap.size w.heap.size v st.out st.at_ st.word st.comm from ⟨blk_below hS2.out.1 hb3, Kd.R_below hS2.out.2 hb3⟩); have hit3 := Aside0.mk ((Iters.below hb3) _ _ _ hit2.out); have hbw3 := Aside0.mk (below_then hbw2.out (Nat.le_of_lt (Nat.lt_of_succ_lt hsz2)) hb3); have hsz3 : w.heap.size ≤ w3.heap.size := Nat.le_trans (Nat.le_of_lt (Nat.lt_of_succ_lt hsz2)) hb3.size; have d1 := (blk_cell (blk_drew hS3.out.1) 1).trans (rfl : _ = some (Value.int .i64 st.at_)); clear hb3)
            go_region
            all_goals
              go_wp2
              go_ret3
              have hFF := HF.out
              rw [← hg1] at hFF
              dsimp only at hFF
              exact ⟨_, by rw [hFF]; rfl, by rw [hFF]; exact Kd.R_nil _ _ _ _ _, Below.drew hbw3.out⟩
          · have hD' : ((d : Int) == 1) = false := by
              rw [beq_eq_false_iff_ne]
              omega
            rw [if_neg (fun h => hD h.2)] at hg1
            clear hR hD
            cases hk : takeF st (r : Int) with
            | none =>
              rw [hk] at hg1
              go_wp2_with (first | (go_at_call 16; refine (Tryd.utf8_DecodeRuneInString _ _ ?t0).mono ?_; (case t0 => exact (Tabs.below HT.out hbw2.out).u8); rintro e w3 ⟨rfl, hb3⟩; rw [hdg]; have hS3 := Aside0.mk (show StAt w3 w.heap.size w.heap.size v st.out st.at_ st.word st.comm from ⟨blk_below hS2.out.1 hb3, Kd.R_below hS2.out.2 hb3⟩); have hit3 := Aside0.mk ((Iters.below hb3) _ _ _ hit2.out); have hbw3 := Aside0.mk (below_then hbw2.out (Nat.le_of_lt (Nat.lt_of_succ_lt hsz2)) hb3); have hsz3 : w.heap.size ≤ w3.heap.size := Nat.le_trans (Nat.le_of_lt (Nat.lt_of_succ_lt hsz2)) hb3.size; have d1 := (blk_cell (blk_drew hS3.out.1) 1).trans (rfl : _ = some (Value.int .i64 st.at_)); clear hb3) | (go_at_call 17; refine (take_calls _ _ w.heap.size w.heap.size v st ?s0 hok.out ?s1 ?s2 ?s3 ?s4 (Nat.le_refl _)).mono ?_; (case s0 => exact hS3.out); (case s1 => exact hA1); (case s2 => exact hA2); (case s3 => exact hA3); (case s4 => exact hsz3); rintro e w4 hpost; unfold TakePost at hpost; rw [hk] at hpost; obtain ⟨rfl, v4, hS4, hb4, hi4⟩ := hpost; have hS5 := Aside0.mk hS4; have hb5 := Aside0.mk hb4; have hi5 := Aside0.mk hi4; have c1 := (blk_cell (blk_drew hS4.1) 1).trans (rfl : _ = some (Value.int .i64 st.at_)); clear hS4 hb4 hi4))
              go_region
              all_goals
                go_wp2
                go_ret3
                have hFF := HF.out
                rw [← hg1] at hFF
                dsimp only at hFF
                exact ⟨_, by rw [hFF]; rfl, by rw [hFF]; exact Kd.R_nil _ _ _ _ _, Below.drew (hbw3.out.trans hb5.out)⟩
            | some st' =>
              rw [hk] at hg1
              have hok' := takeF_ok hok.out hk
              go_wp2_with (first | (go_at_call 16; refine (Tryd.utf8_DecodeRuneInString _ _ ?t0).mono ?_; (case t0 => exact (Tabs.below HT.out hbw2.out).u8); rintro e w3 ⟨rfl, hb3⟩; rw [hdg]; have hS3 := Aside0.mk (show StAt w3 w.heap.size w.heap.size v st.out st.at_ st.word st.comm from ⟨blk_below hS2.out.1 hb3, Kd.R_below hS2.out.2 hb3⟩); have hit3 := Aside0.mk ((Iters.below hb3) _ _ _ hit2.out); have hbw3 := Aside0.mk (below_then hbw2.out (Nat.le_of_lt (Nat.lt_of_succ_lt hsz2)) hb3); have hsz3 : w.heap.size ≤ w3.heap.size := Nat.le_trans (Nat.le_of_lt (Nat.lt_of_succ_lt hsz2)) hb3.size; have d1 := (blk_cell (blk_drew hS3.out.1) 1).trans (rfl : _ = some (Value.int .i64 st.at_)); clear hb3) | (go_at_call 17; refine (take_calls _ _ w.heap.size w.heap.size v st ?s0 hok.out ?s1 ?s2 ?s3 ?s4 (Nat.le_refl _)).mono ?_; (case s0 => exact hS3.out); (case s1 => exact hA1); (case s2 => exact hA2); (case s3 => exact hA3); (case s4 => exact hsz3); rintro e w4 hpost; unfold TakePost at hpost; rw [hk] at hpost; obtain ⟨rfl, v4, hS4, hb4, hi4⟩ := hpost; have hS5 := Aside0.mk hS4; have hb5 := Aside0.mk hb4; have hi5 := Aside0.mk hi4; clear hS4 hb4 hi4))
              go_roundw
              case rel => exact ⟨pos + d, f, st', v4, hS5, ⟨hi5.out _ _ _ hit3.out⟩, ⟨hbw3.out.trans hb5.out⟩, ⟨hg1⟩, ⟨by have := hfu.out; omega⟩, ⟨hok'.1⟩, ⟨by have := hok'.2; have := hat.out; omega⟩, ⟨by omega⟩⟩
              case measure =>
                simp only [World.iterPos, hi5.out _ _ _ hit3.out, hit.out]
                omega
        · have hR' : ((r : Int) == 65533) = false := by
            rw [beq_eq_false_iff_ne]
            omega
          rw [if_neg (fun h => hR h.1)] at hg1
          clear hR
          have hsz2' : w.heap.size ≤ w2.heap.size := by omega
          cases hk : takeF st (r : Int) with
          | none =>
            rw [hk] at hg1
            go_wp2_with (go_at_call 17; refine (take_calls _ _ w.heap.size w.heap.size v st ?s0 hok.out ?s1 ?s2 ?s3 ?s4 (Nat.le_refl _)).mono ?_; (case s0 => exact hS2.out); (case s1 => exact hA1); (case s2 => exact hA2); (case s3 => exact hA3); (case s4 => exact hsz2'); rintro e w4 hpost; unfold TakePost at hpost; rw [hk] at hpost; obtain ⟨rfl, v4, hS4, hb4, hi4⟩ := hpost; have hS5 := Aside0.mk hS4; have hb5 := Aside0.mk hb4; have hi5 := Aside0.mk hi4; have c1 := (blk_cell (blk_drew hS4.1) 1).trans (rfl : _ = some (Value.int .i64 st.at_)); clear hS4 hb4 hi4)
            go_region
            all_goals
              go_wp2
              go_ret3
              have hFF := HF.out
              rw [← hg1] at hFF
              dsimp only at hFF
              exact ⟨_, by rw [hFF]; rfl, by rw [hFF]; exact Kd.R_nil _ _ _ _ _, Below.drew (hbw2.out.trans hb5.out)⟩
          | some st' =>
            rw [hk] at hg1
            have hok' := takeF_ok hok.out hk
            go_wp2_with (go_at_call 17; refine (take_calls _ _ w.heap.size w.heap.size v st ?s0 hok.out ?s1 ?s2 ?s3 ?s4 (Nat.le_refl _)).mono ?_; (case s0 => exact hS2.out); (case s1 => exact hA1); (case s2 => exact hA2); (case s3 => exact hA3); (case s4 => exact hsz2'); rintro e w4 hpost; unfold TakePost at hpost; rw [hk] at hpost; obtain ⟨rfl, v4, hS4, hb4, hi4⟩ := hpost; have hS5 := Aside0.mk hS4; have hb5 := Aside0.mk hb4; have hi5 := Aside0.mk hi4; clear hS4 hb4 hi4)
            go_roundw
            case rel => exact ⟨pos + d, f, st', v4, hS5, ⟨hi5.out _ _ _ hit2.out⟩, ⟨hbw2.out.trans hb5.out⟩, ⟨hg1⟩, ⟨by have := hfu.out; omega⟩, ⟨hok'.1⟩, ⟨by have := hok'.2; have := hat.out; omega⟩, ⟨by omega⟩⟩
            case measure =>
              simp only [World.iterPos, hi5.out _ _ _ hit2.out, hit.out]
              omega
      · have hnx : ∀ ty, (Instr.next (.pointer (some ⟨w.heap.size + 1, 0, none⟩)) true ty).run Tryd.prog wr = _ := fun ty => Lib.run_next_end_at wr (w.heap.size + 1) s pos ty hit.out hp
        have hg1 := hgo.out
        rw [lexGo_end s fuel pos st hp] at hg1
        have hFF := HF.out
        rw [← hg1] at hFF
        dsimp only at hFF
        clear hgo hg1 HF
        obtain ⟨hb, hRr⟩ := hS.out
        have hRD := Kd.R_drew hRr
        have hlen : (st.out.length : Int) ≤ 8000 := by
          have := hok.out.len
          have := hat.out
          have := hps.out
          omega
        obtain ⟨v1, w1, hrun, hR1, hg2, hB1⟩ := run_append_T w.heap.size wr.drew v st.out ⟨2, st.at_, ⟨#[]⟩⟩ (fun k => k ≠ w.heap.size) hRD (by simp; omega) (by omega) (fun k hk => by simp at hk; omega)
        have hrun' : (Builtin.append_ #[22, 22] 22 #[v, .slice (some ⟨wr.heap.size, 0, none⟩) 1 1]).run Tryd.prog (wr.alloc (.cells #[.int .i64 2, .int .i64 st.at_, .string ⟨#[]⟩] 32)).drew = .ok v1 w1 := hrun
        have b2 := blk_drew (blk_alloc hb (.cells #[.int .i64 2, .int .i64 st.at_, .string ⟨#[]⟩] 32))
        have c0 := (blk_cell b2 0).trans (rfl : _ = some v)
        have c1 := (blk_cell b2 1).trans (rfl : _ = some (Value.int .i64 st.at_))
        have d0 := (blk_cell (blk_drew hb) 0).trans (rfl : _ = some v)
        have d1 := (blk_cell (blk_drew hb) 1).trans (rfl : _ = some (Value.int .i64 st.at_))
        have hb1 : w1.heap[w.heap.size]? = some (.cells #[v, .int .i64 st.at_, .bool st.word, .bool st.comm] 39 (0, 0)) := blk_grown (blk_drew hb) hg2 (fun e => (hRD.1 w.heap.size e.symm) rfl)
        have k1 := (blk_cell hb1 1).trans (rfl : _ = some (Value.int .i64 st.at_))
        have HFF := Aside0.mk hFF
        have HR := Aside0.mk hrun'
        have HRR := Aside0.mk hR1
        have HBB := Aside0.mk ((Below.drew hbw.out).trans hB1)
        clear hrun hrun' hR1 hB1 hFF hRr hRD hb
        go_wp2
        go_region_law (refine step_run rfl (.tmp 47) (.tmp 53) 22 rfl (by simp [Act.eval]) (by simp [Act.eval]) HR.out ?_)
        all_goals
          go_wp2
          go_ret3
          exact ⟨v1, by rw [HFF.out]; rfl, by rw [HFF.out]; exact Kd.R_mono HRR.out (fun _ _ => trivial), HBB.out⟩
def lex_All.f (a0 : ByteArray) : Option (List S32 × Int × Int) := some (lexF a0)
theorem lex_All.calls (a0 : ByteArray) (r1 : List S32) (r2 : Int) (r3 : Int) (w : World) (hT : Tabs w) (h : lex_All.f a0 = some (r1, r2, r3)) :
    Calls Tryd.prog 11 #[.string a0] w fun e w' => ∃ v0_ : Value, e = .returned (.tuple #[v0_, .int .i64 r2, .int .i64 r3]) ∧ Kd.R k32 32 w' w.heap.size (fun _ => True) v0_ r1 ∧ Below w.heap.size w w' := by
  have e := Option.some.inj h
  have h1 : (lexF a0).1 = r1 := congrArg (·.1) e
  have h2 : (lexF a0).2.1 = r2 := congrArg (·.2.1) e
  have h3 : (lexF a0).2.2 = r3 := congrArg (·.2.2) e
  have := lex_calls a0 w hT
  rw [h1, h2, h3] at this
  exact this

end Go.Proofs.YtmohglifmoecnaaDoor.PPla
