import Derived.Test.YtmohglifmoecnaaDoorPdLexBack
import Derived.Test.YtmohglifmoecnaaDoorPureLex
namespace Go.Proofs.YtmohglifmoecnaaDoor.Pure
open Go.RowKit Go.Proofs.YtmohglifmoecnaaDoor.PAll Go.Proofs.YtmohglifmoecnaaDoorW.PrintWords Go.Proofs.YtmohglifmoecnaaDoorW.PrintLast
set_option linter.unusedVariables false
/-- A token without its place. -/
def er (t : S32) : Int × List UInt8 := (t.f0, t.f2.data.toList)
def TokOk (t : S32) : Prop := (t.f0 = 0 ∧ t.f2.data.toList ≠ [] ∧ ∀ b ∈ t.f2.data.toList, letterR (b.toNat : Int) = true) ∨ (t.f0 = 1 ∧ t.f2.data.toList = [])
def wt (l : List S32) : Nat := (l.map fun t => t.f2.size + 1).sum
structure Inv (st : LSt) : Prop where
  toks : ∀ t ∈ st.out, TokOk t
  last : st.word = true → ∃ pre t, st.out = pre ++ [t] ∧ t.f0 = 0
  wt : (wt st.out : Int) ≤ 2 * st.at_
theorem letter_range {r : Int} (h : letterR r = true) : 45 ≤ r ∧ r ≤ 122 := by
  unfold letterR at h
  rw [decide_eq_true_iff] at h
  omega
theorem letter_enc {r : Int} (h : letterR r = true) : Utf8.encode r = ⟨#[UInt8.ofNat r.toNat]⟩ := by
  have := letter_range h
  have hv : Utf8.valid r = true := by
    unfold Utf8.valid
    simp
    omega
  unfold Utf8.encode
  dsimp only
  rw [if_pos hv, if_pos (by omega)]
theorem addLast_app (pre : List S32) (t : S32) (s : ByteArray) : addLast (pre ++ [t]) s = pre ++ [⟨t.f0, t.f1, t.f2 ++ s⟩] := by
  unfold addLast
  have : (pre ++ [t]).length - 1 = pre.length := by simp
  rw [this]
  simp [List.getD_eq_getElem?_getD]
theorem wt_app (a b : List S32) : wt (a ++ b) = wt a + wt b := by
  unfold wt
  rw [List.map_append, List.sum_append]
theorem wt_one (t : S32) : wt [t] = t.f2.size + 1 := by
  unfold wt
  simp
theorem empty_size : (⟨#[]⟩ : ByteArray).size = 0 := rfl
theorem takeF_inv {st st' : LSt} {r : Int} (h : Inv st) (ht : takeF st r = some st') : Inv st' := by
  obtain ⟨h1, h2, h3⟩ := h
  unfold takeF at ht
  by_cases c1 : r = 10
  · rw [if_pos c1] at ht
    obtain rfl := Option.some.inj ht
    refine ⟨?_, (fun h => by cases h), ?_⟩
    · intro t hm
      rcases List.mem_append.1 hm with hm | hm
      · exact h1 t hm
      · rw [List.mem_singleton.1 hm]
        exact .inr ⟨rfl, rfl⟩
    · dsimp only
      rw [wt_app, wt_one]
      dsimp only
      rw [empty_size]
      omega
  · rw [if_neg c1] at ht
    by_cases c2 : st.comm = true ∨ r = 35
    · rw [if_pos c2] at ht
      obtain rfl := Option.some.inj ht
      exact ⟨h1, (fun h => by cases h), by dsimp only; omega⟩
    · rw [if_neg c2] at ht
      by_cases c3 : letterR r = true
      · rw [if_pos c3] at ht
        obtain rfl := Option.some.inj ht
        have hrr := letter_range c3
        have hb : letterR ((UInt8.ofNat r.toNat).toNat : Int) = true := by
          rw [UInt8.toNat_ofNat', Nat.mod_eq_of_lt (by omega), Int.toNat_of_nonneg (by omega)]
          exact c3
        rw [letter_enc c3]
        cases hw : st.word
        · rw [if_neg (by decide), addLast_app]
          refine ⟨?_, (fun _ => ⟨_, _, rfl, rfl⟩), ?_⟩
          · intro t hm
            rcases List.mem_append.1 hm with hm | hm
            · exact h1 t hm
            · rw [List.mem_singleton.1 hm]
              refine .inl ⟨rfl, by simp, ?_⟩
              intro b hbm
              simp at hbm
              rw [hbm]
              exact hb
          · dsimp only
            rw [wt_app, wt_one]
            dsimp only
            rw [ByteArray.size_append, empty_size, show (⟨#[UInt8.ofNat r.toNat]⟩ : ByteArray).size = 1 from rfl]
            omega
        · obtain ⟨pre, t, ho, h0⟩ := h2 hw
          rw [if_pos rfl]
          rw [ho] at h1 h3 ⊢
          rw [addLast_app]
          refine ⟨?_, (fun _ => ⟨_, _, rfl, h0⟩), ?_⟩
          · intro u hm
            rcases List.mem_append.1 hm with hm | hm
            · exact h1 u (List.mem_append_left _ hm)
            · rw [List.mem_singleton.1 hm]
              rcases h1 t (by simp) with ⟨_, hne, hl⟩ | ⟨hk, _⟩
              · refine .inl ⟨h0, by simp, ?_⟩
                intro b hbm
                simp at hbm
                rcases hbm with hbm | hbm
                · exact hl b (by simpa using hbm)
                · rw [hbm]
                  exact hb
              · omega
          · rw [wt_app, wt_one] at h3 ⊢
            dsimp only
            rw [ByteArray.size_append, show (⟨#[UInt8.ofNat r.toNat]⟩ : ByteArray).size = 1 from rfl]
            omega
      · rw [if_neg c3] at ht
        by_cases c4 : r ≠ 32 ∧ r ≠ 9
        · rw [if_pos c4] at ht
          cases ht
        · rw [if_neg c4] at ht
          obtain rfl := Option.some.inj ht
          exact ⟨h1, (fun h => by cases h), by dsimp only; omega⟩
theorem foldC_inv : ∀ (cs : List (Option Nat)) (st st' : LSt), Inv st → foldC cs st = .ok st' → Inv st'
  | [], st, st', hok, h => by
    cases h
    exact hok
  | none :: _, st, st', hok, h => by cases h
  | some r :: cs, st, st', hok, h => by
    rw [foldC] at h
    cases ht : takeF st (r : Int) with
    | none =>
      rw [ht] at h
      cases h
    | some s1 =>
      rw [ht] at h
      exact foldC_inv cs s1 st' (takeF_inv hok ht) h
theorem chars_all : ∀ l : List UInt8, (∀ b ∈ l, b.toNat < 128) → chars l = l.map fun b => some b.toNat
  | [], _ => rfl
  | b :: t, h => by
    rw [chars_ascii b t (h b (by simp)), chars_all t (fun x hx => h x (by simp [hx])), List.map_cons]
theorem show_len : ∀ (l : List S32) (last : Int), (showGo last l).length ≤ wt l
  | [], _ => Nat.zero_le _
  | t :: ts, last => by
    have h1 := show_len ts t.f0
    have h2 : (showT last t).length ≤ t.f2.size + 1 := by
      have := sizeL t.f2
      unfold showT
      split
      · split
        · rw [List.length_cons]
          omega
        · omega
      · split <;> simp
    have h3 : wt (t :: ts) = (t.f2.size + 1) + wt ts := by
      unfold wt
      simp
    rw [showGo, List.length_append, h3]
    omega
theorem show_ascii : ∀ (l : List S32) (last : Int), (∀ t ∈ l, TokOk t) → ∀ b ∈ showGo last l, b.toNat < 128
  | [], _, _, b, hb => by cases hb
  | t :: ts, last, h, b, hb => by
    rw [showGo] at hb
    rcases List.mem_append.1 hb with hb | hb
    · rcases h t (by simp) with ⟨h0, _, hl⟩ | ⟨h1, _⟩
      · unfold showT at hb
        rw [if_pos h0] at hb
        split at hb
        · rcases List.mem_cons.1 hb with hb | hb
          · rw [hb]
            decide
          · have := letter_range (hl b hb)
            omega
        · have := letter_range (hl b hb)
          omega
      · unfold showT at hb
        rw [if_neg (by omega), if_pos h1] at hb
        rw [List.mem_singleton.1 hb]
        decide
    · exact show_ascii ts _ (fun x hx => h x (by simp [hx])) b hb
theorem showGo_er : ∀ (l l' : List S32) (last : Int), l.map er = l'.map er → showGo last l = showGo last l'
  | [], [], _, _ => rfl
  | [], _ :: _, _, h => by cases h
  | _ :: _, [], _, h => by cases h
  | t :: ts, u :: us, last, h => by
    rw [List.map_cons, List.map_cons, List.cons.injEq] at h
    obtain ⟨h1, h2⟩ := h
    unfold er at h1
    rw [Prod.mk.injEq] at h1
    obtain ⟨h3, h4⟩ := h1
    rw [showGo, showGo, h3, showGo_er ts us _ h2]
    congr 1
    unfold showT
    rw [h3, h4]
theorem showGo_end (e : S32) (he : e.f0 = 2) : ∀ (l : List S32) (last : Int), showGo last (l ++ [e]) = showGo last l
  | [], last => by
    rw [List.nil_append, showGo, showGo]
    unfold showT
    rw [he]
    rfl
  | t :: ts, last => by
    rw [List.cons_append, showGo, showGo, showGo_end e he ts]
/-- Letters behind a word's. -/
theorem relex_more (pre : List S32) (f1 : Int) : ∀ (bs : List UInt8) (at_ : Int) (cur : ByteArray), (∀ b ∈ bs, letterR (b.toNat : Int) = true) → ∃ cur' at', foldC (bs.map fun b => some b.toNat) ⟨pre ++ [⟨0, f1, cur⟩], at_, true, false⟩ = .ok ⟨pre ++ [⟨0, f1, cur'⟩], at', true, false⟩ ∧ cur'.data.toList = cur.data.toList ++ bs
  | [], at_, cur, _ => ⟨cur, at_, rfl, by simp⟩
  | b :: bs, at_, cur, h => by
    have hb := h b (by simp)
    have hr := letter_range hb
    obtain ⟨cur', at', h1, h2⟩ := relex_more pre f1 bs (at_ + 1) (cur ++ ⟨#[UInt8.ofNat ((b.toNat : Int)).toNat]⟩) (fun x hx => h x (by simp [hx]))
    refine ⟨cur', at', ?_, ?_⟩
    · rw [List.map_cons, foldC]
      have : takeF ⟨pre ++ [⟨0, f1, cur⟩], at_, true, false⟩ (b.toNat : Int) = some ⟨pre ++ [⟨0, f1, cur ++ ⟨#[UInt8.ofNat ((b.toNat : Int)).toNat]⟩⟩], at_ + 1, true, false⟩ := by
        have h35 : (b.toNat : Int) ≠ 35 := by omega
        have h10 : (b.toNat : Int) ≠ 10 := by omega
        unfold takeF
        dsimp only
        rw [if_neg h10, if_neg (by rintro (h | h); · cases h
                                   · exact h35 h), if_pos hb, if_pos rfl, addLast_app, letter_enc hb]
      rw [this]
      exact h1
    · rw [h2]
      simp
theorem relex : ∀ (l : List S32) (last : Int) (st : LSt), (∀ t ∈ l, TokOk t) → st.comm = false → (last ≠ 0 → st.word = false) → ∃ st', foldC ((showGo last l).map fun b => some b.toNat) st = .ok st' ∧ st'.out.map er = st.out.map er ++ l.map er
  | [], last, st, _, _, _ => ⟨st, rfl, by simp⟩
  | t :: ts, last, st, h, hc, hw => by
    have hts : ∀ u ∈ ts, TokOk u := fun x hx => h x (by simp [hx])
    obtain ⟨out, at_, word, comm⟩ := st
    obtain rfl : comm = false := hc
    dsimp only at hw
    rw [showGo, List.map_append, foldC_app]
    rcases h t (by simp) with ⟨h0, hne, hl⟩ | ⟨h1, he⟩
    · -- the word itself, where none stands before
      have word_ : ∀ at_ : Int, ∃ f at', foldC (t.f2.data.toList.map fun b => some b.toNat) ⟨out, at_, false, false⟩ = .ok ⟨out ++ [⟨0, at_, f⟩], at', true, false⟩ ∧ f.data.toList = t.f2.data.toList := by
        intro at_
        obtain ⟨b, bs, hbs⟩ : ∃ b bs, t.f2.data.toList = b :: bs := by
          cases hx : t.f2.data.toList with
          | nil => exact absurd hx hne
          | cons b bs => exact ⟨b, bs, rfl⟩
        rw [hbs] at hl ⊢
        have hb := hl b (by simp)
        have hr := letter_range hb
        obtain ⟨cur', at', e1, e2⟩ := relex_more out at_ bs (at_ + 1) ((⟨#[]⟩ : ByteArray) ++ ⟨#[UInt8.ofNat ((b.toNat : Int)).toNat]⟩) (fun x hx => hl x (by simp [hx]))
        refine ⟨cur', at', ?_, ?_⟩
        · rw [List.map_cons, foldC]
          have : takeF ⟨out, at_, false, false⟩ (b.toNat : Int) = some ⟨out ++ [⟨0, at_, (⟨#[]⟩ : ByteArray) ++ ⟨#[UInt8.ofNat ((b.toNat : Int)).toNat]⟩⟩], at_ + 1, true, false⟩ := by
            have h35 : (b.toNat : Int) ≠ 35 := by omega
            have h10 : (b.toNat : Int) ≠ 10 := by omega
            unfold takeF
            dsimp only
            rw [if_neg h10, if_neg (by rintro (h | h); · cases h
                                       · exact h35 h), if_pos hb, if_neg (by decide), addLast_app, letter_enc hb]
          rw [this]
          exact e1
        · rw [e2]
          simp
      have fin : ∃ f a2 at', foldC ((showT last t).map fun b => some b.toNat) ⟨out, at_, word, false⟩ = .ok ⟨out ++ [⟨0, a2, f⟩], at', true, false⟩ ∧ f.data.toList = t.f2.data.toList := by
        unfold showT
        rw [if_pos h0]
        by_cases hk : last = 0
        · rw [if_pos hk, List.map_cons, foldC]
          have : takeF ⟨out, at_, word, false⟩ (((32 : UInt8).toNat : Nat) : Int) = some ⟨out, at_ + 1, false, false⟩ := by
            have h0 : ((32 : UInt8).toNat : Int) = 32 := rfl
            unfold takeF
            rw [h0]
            simp
            decide
          rw [this]
          obtain ⟨f, at', e1, e2⟩ := word_ (at_ + 1)
          exact ⟨f, _, at', e1, e2⟩
        · rw [if_neg hk, hw hk]
          obtain ⟨f, at', e1, e2⟩ := word_ at_
          exact ⟨f, _, at', e1, e2⟩
      obtain ⟨f, a2, at', e1, e2⟩ := fin
      rw [e1]
      dsimp only
      obtain ⟨st', r1, r2⟩ := relex ts t.f0 ⟨out ++ [⟨0, a2, f⟩], at', true, false⟩ hts rfl (fun hk => absurd h0 hk)
      refine ⟨st', r1, ?_⟩
      rw [r2]
      simp [er, e2, h0]
    · have e1 : foldC ((showT last t).map fun b => some b.toNat) ⟨out, at_, word, false⟩ = .ok ⟨out ++ [⟨1, at_, ⟨#[]⟩⟩], at_ + 1, false, false⟩ := by
        unfold showT
        rw [if_neg (by omega), if_pos h1]
        rfl
      rw [e1]
      dsimp only
      obtain ⟨st', r1, r2⟩ := relex ts t.f0 ⟨out ++ [⟨1, at_, ⟨#[]⟩⟩], at_ + 1, false, false⟩ hts rfl (fun _ => rfl)
      refine ⟨st', r1, ?_⟩
      rw [r2]
      simp [er, he, h1]
theorem rd_map {a b : List S32} (h : a.map er = b.map er) (i : Int) (h0 : 0 ≤ i) (h1 : i < a.length) : (rd_T32 a i).f0 = (rd_T32 b i).f0 ∧ (rd_T32 a i).f2.toList = (rd_T32 b i).f2.toList := by
  have hl : a.length = b.length := by simpa using congrArg List.length h
  obtain ⟨j, rfl⟩ : ∃ j : Nat, i = (j : Int) := ⟨i.toNat, by omega⟩
  have hj : j < a.length := by omega
  have e := congrArg (·[j]?) h
  simp only [List.getElem?_map, List.getElem?_eq_getElem hj, List.getElem?_eq_getElem (show j < b.length by omega), Option.map_some, Option.some.injEq] at e
  rw [rd_at32 hj, rd_at32 (by omega)]
  unfold er at e
  rw [Prod.mk.injEq] at e
  refine ⟨e.1, ?_⟩
  have := e.2
  rw [Array.toList_inj] at this
  have h2 : a[j].f2 = b[j].f2 := by
    cases hx : a[j].f2
    cases hy : b[j].f2
    rw [hx, hy] at this
    simp at this
    rw [this]
  rw [h2]
theorem back_loop (a b : List S32) (t : ByteArray) (h : a.map er = b.map er) (hs : lex_Show.f b = some t) (hbig : a.length ≤ 100000) : ∀ (n : Nat) (i : Int), 0 ≤ i → i ≤ a.length → a.length - i.toNat ≤ n → ridgewaylaw11_LexBack.l0 (n + 1) true a t b i = some true
  | n, i, h0, h1, hn => by
    have hl : a.length = b.length := by simpa using congrArg List.length h
    rw [ridgewaylaw11_LexBack.l0]
    by_cases hi : i < (a.length : Int)
    · obtain ⟨m, rfl⟩ : ∃ m, n = m + 1 := ⟨n - 1, by omega⟩
      have hw : wrap64 (i + 1) = i + 1 := by unfold wrap64; omega
      obtain ⟨r1, r2⟩ := rd_map h i h0 hi
      rw [if_pos hi, if_pos h0, if_pos (by omega), if_pos r1, if_pos r2, hw]
      exact back_loop a b t h hs hbig m (i + 1) (by omega) (by omega) (by omega)
    · rw [if_neg hi, if_pos rfl, hs]
      simp

/-- YOURS: def ridgewaylaw11_LexBack.Pure : Prop := ∀ (x0 : ByteArray), g9 x0 → ∃ k, ridgewaylaw11_LexBack.f k x0 = some true -/
theorem LexBack : ridgewaylaw11_LexBack.Pure := by
  intro s _
  refine ⟨20000, ?_⟩
  unfold ridgewaylaw11_LexBack.f
  rw [awake_true]
  simp only [Option.bind_some]
  by_cases h1 : (s.size : Int) > 1000
  · rw [if_pos h1]
  · rw [if_neg h1]
    have e0 := lexF_eq s (by omega)
    have hlen := chars_length _ s.data.toList (Nat.le_refl _)
    rw [size_list] at hlen
    have ef : lex_All.f s = some (told (foldC (chars s.data.toList) st0)) := congrArg some e0
    rw [ef]
    simp only [Option.bind_some]
    cases hf : foldC (chars s.data.toList) st0 with
    | error a =>
      have he := foldC_err _ _ _ st0_ok hf
      have h0 : st0.at_ = 0 := rfl
      have t0 : told (.error a) = (([] : List S32), a, 5) := rfl
      rw [t0]
      have hd : decide (a < (s.size : Int)) = true := decide_eq_true (by omega)
      have h50 : ¬ ((5 : Int) = 0) := by decide
      have ha : a ≥ 0 := by omega
      simp only [if_true, h50, if_false, List.length_nil, hd, ha, Int.natCast_zero, if_pos]
    | ok st =>
      have hok := foldC_ok _ _ _ st0_ok hf
      have hin := foldC_inv _ _ _ ⟨(fun t ht => by cases ht), (fun h => by cases h), by decide⟩ hf
      have h0 : st0.at_ = 0 := rfl
      have hat : 0 ≤ st.at_ ∧ st.at_ ≤ 1000 := by
        have := hok.2
        omega
      have hout := hok.1.len
      have hwt := hin.wt
      have t0 : ∀ st : LSt, told (.ok st) = (st.out ++ [⟨2, st.at_, ⟨#[]⟩⟩], st.at_, 0) := fun _ => rfl
      rw [t0]
      simp only [if_true]
      have hsl := show_len st.out 2
      have hse := showGo_end ⟨2, st.at_, ⟨#[]⟩⟩ rfl st.out 2
      have hshow : lex_Show.f (st.out ++ [⟨2, st.at_, ⟨#[]⟩⟩]) = some ⟨(showGo 2 st.out).toArray⟩ := by
        unfold lex_Show.f
        rw [hse, if_pos (by omega)]
      rw [hshow]
      simp only [Option.bind_some]
      obtain ⟨st', r1, r2⟩ := relex st.out 2 st0 hin.toks rfl (fun _ => rfl)
      have hsz : (⟨(showGo 2 st.out).toArray⟩ : ByteArray).size = (showGo 2 st.out).length := by
        rw [← size_list]
      have ef2 : lex_All.f ⟨(showGo 2 st.out).toArray⟩ = some (told (.ok st')) := by
        have e1 := lexF_eq ⟨(showGo 2 st.out).toArray⟩ (by omega)
        have e2 : (⟨(showGo 2 st.out).toArray⟩ : ByteArray).data.toList = showGo 2 st.out := by simp
        rw [e2, chars_all _ (show_ascii _ _ hin.toks), r1] at e1
        exact congrArg some e1
      rw [ef2]
      rw [t0]
      simp only [Option.bind_some, if_true]
      have hmap : (st.out ++ [(⟨2, st.at_, ⟨#[]⟩⟩ : S32)]).map er = (st'.out ++ [(⟨2, st'.at_, ⟨#[]⟩⟩ : S32)]).map er := by
        rw [List.map_append, List.map_append, r2]
        rfl
      have hl : (st.out ++ [(⟨2, st.at_, ⟨#[]⟩⟩ : S32)]).length = (st'.out ++ [(⟨2, st'.at_, ⟨#[]⟩⟩ : S32)]).length := by simpa using congrArg List.length hmap
      have hln : (st.out ++ [(⟨2, st.at_, ⟨#[]⟩⟩ : S32)]).length ≤ 10000 := by
        rw [List.length_append, List.length_singleton]
        omega
      have hs2 : lex_Show.f (st'.out ++ [⟨2, st'.at_, ⟨#[]⟩⟩]) = some ⟨(showGo 2 st.out).toArray⟩ := by
        have e3 := showGo_er _ _ 2 hmap
        rw [hse] at e3
        unfold lex_Show.f
        rw [← e3, if_pos (by omega)]
      rw [ridgewaylaw11_LexBack.j0, if_neg (by rw [hl]; simp)]
      exact back_loop _ _ _ hmap hs2 (by omega) 19998 0 (by omega) (by omega) (by omega)

end Go.Proofs.YtmohglifmoecnaaDoor.Pure
