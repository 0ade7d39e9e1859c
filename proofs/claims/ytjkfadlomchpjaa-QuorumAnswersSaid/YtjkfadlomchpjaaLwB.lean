/- The commit index; the laws on answers, commits and the index. -/
import Derived.Test.YtjkfadlomchpjaaLwA
set_option linter.unusedVariables false
set_option linter.unusedSimpArgs false
namespace Go.Proofs.Ytjkfadlomchpjaa
open Eng

/-! #### the commit index -/
abbrev ep (r : api_Replica) (j : Int) : Prop := (r.Log.getD (Int.toNat (j - 1)) (⟨(0 : Int), ([] : List UInt8)⟩ : api_Entry)).Epoch = r.Epoch

structure Good (r : api_Replica) (x c : Int) : Prop where
  is : c = r.Commit ∨ (r.Commit < c ∧ 1 ≤ c ∧ c ≤ r.Log.length ∧ c ≤ x ∧ ep r c)
  most : ∀ j, r.Commit < j → 1 ≤ j → j ≤ r.Log.length → j ≤ x → ep r j → j ≤ c

theorem Good.uniq {r : api_Replica} {x c d : Int} (h : Good r x c) (h' : Good r x d) : c = d := by
  rcases h.is with h1 | ⟨h1, h2, h3, h4, h5⟩
  · rcases h'.is with g1 | ⟨g1, g2, g3, g4, g5⟩
    · omega
    · have := h.most d g1 g2 g3 g4 g5; omega
  · have a := h'.most c h1 h2 h3 h4 h5
    rcases h'.is with g1 | ⟨g1, g2, g3, g4, g5⟩
    · omega
    · have := h.most d g1 g2 g3 g4 g5; omega

theorem commit_l7 (K : Nat) (r : api_Replica) (hl : r.Log.length ≤ 300) : ∀ (k : Nat) (i : Int), i.toNat < k → 0 ≤ i → i ≤ r.Log.length →
    (∃ c, quorum_Commit.l7 K r k i = some (Out.done c) ∧ r.Commit < c ∧ 1 ≤ c ∧ c ≤ i ∧ ep r c ∧ ∀ j, r.Commit < j → 1 ≤ j → j ≤ i → ep r j → j ≤ c) ∨
    (quorum_Commit.l7 K r k i = some (Out.go ()) ∧ ∀ j, r.Commit < j → 1 ≤ j → j ≤ i → ¬ ep r j) := by
  intro k
  induction k with
  | zero => intro i h; omega
  | succ k ih =>
    intro i h h0 hn
    unfold quorum_Commit.l7
    by_cases h1 : i > r.Commit
    · rw [if_pos h1]
      by_cases h2 : i > 0
      · rw [if_pos h2, Eng.wrap_small (by omega) (by omega), if_pos (by omega)]
        by_cases h3 : ep r i
        · rw [if_pos h3]
          exact .inl ⟨i, rfl, by omega, by omega, by omega, h3, fun j _ _ h _ => h⟩
        · rw [if_neg h3]
          rcases ih (i - 1) (by omega) (by omega) (by omega) with ⟨c, g1, g2, g3, g4, g5, g6⟩ | ⟨g1, g2⟩
          · refine .inl ⟨c, g1, g2, g3, by omega, g5, fun j a1 a2 a3 a4 => ?_⟩
            rcases (show j ≤ i - 1 ∨ j = i by omega) with e | rfl
            · exact g6 j a1 a2 e a4
            · exact absurd a4 h3
          · refine .inr ⟨g1, fun j a1 a2 a3 a4 => ?_⟩
            rcases (show j ≤ i - 1 ∨ j = i by omega) with e | rfl
            · exact g2 j a1 a2 e a4
            · exact h3 a4
      · rw [if_neg h2]; exact .inr ⟨rfl, fun j a1 a2 a3 => by omega⟩
    · rw [if_neg h1]; exact .inr ⟨rfl, fun j a1 a2 a3 => by omega⟩

theorem commit_eq (K : Nat) (r : api_Replica) (l : List Int) (hl : r.Log.length ≤ 300) (hm : l.length ≤ 50) (hK : 1000 ≤ K) : ∃ c, quorum_Commit K r l = some c ∧ Good r (idx l) c := by
  unfold quorum_Commit
  rw [index_idx K l hm]
  simp only [Option.bind_some]
  have hx := idx_nonneg l hm
  rcases commit_l7 K r hl K (if (r.Log.length : Int) < idx l then (r.Log.length : Int) else idx l) (by split <;> omega) (by split <;> omega) (by split <;> omega) with ⟨c, g1, g2, g3, g4, g5, g6⟩ | ⟨g1, g2⟩
  · rw [g1]
    refine ⟨c, rfl, .inr ⟨g2, g3, by split at g4 <;> omega, by split at g4 <;> omega, g5⟩, fun j a1 a2 a3 a4 a5 => g6 j a1 a2 (by split <;> omega) a5⟩
  · rw [g1]
    exact ⟨r.Commit, rfl, .inl rfl, fun j a1 a2 a3 a4 a5 => absurd a5 (g2 j a1 a2 (by split <;> omega))⟩

theorem rcommit_l9 (K : Nat) (r : api_Replica) (l : List Int) (hl : r.Log.length ≤ 300) (hm : l.length ≤ 50) (hK : 1000 ≤ K) : ∀ (k : Nat) (b i : Int), (r.Log.length + 1 - i).toNat < k → 1 ≤ i → i ≤ r.Log.length + 1 →
    (b = r.Commit ∨ (r.Commit < b ∧ 1 ≤ b ∧ b ≤ r.Log.length ∧ b ≤ idx l ∧ b < i ∧ ep r b)) → (∀ j, r.Commit < j → 1 ≤ j → j < i → j ≤ idx l → ep r j → j ≤ b) → ∃ c, workflowref53_Commit.l9 K r l k b i = some c ∧ Good r (idx l) c := by
  intro k
  induction k with
  | zero => intro b i h; omega
  | succ k ih =>
    intro b i h h0 hn hb hmost
    unfold workflowref53_Commit.l9
    by_cases h1 : i ≤ r.Log.length
    · rw [if_pos h1, rindex_eq K l hm (by omega)]
      simp only [Option.bind_some]
      by_cases h2 : i ≤ idx l
      · rw [if_pos h2]
        have hw : IntKind.i64.wrap (i + 1) = i + 1 := Eng.wrap_small (by omega) (by omega)
        rw [hw]
        by_cases h3 : i > b
        · rw [if_pos h3, Eng.wrap_small (by omega) (by omega), if_pos (by omega)]
          have hgt : r.Commit < i := by rcases hb with rfl | hb <;> omega
          by_cases h4 : ep r i
          · rw [if_pos h4]
            refine ih i (i + 1) (by omega) (by omega) (by omega) (.inr ⟨hgt, h0, h1, h2, by omega, h4⟩) (fun j a1 a2 a3 a4 a5 => by omega)
          · rw [if_neg h4]
            refine ih b (i + 1) (by omega) (by omega) (by omega) (hb.imp_right fun ⟨b1, b2, b3, b4, b5, b6⟩ => ⟨b1, b2, b3, b4, by omega, b6⟩) (fun j a1 a2 a3 a4 a5 => ?_)
            rcases (show j < i ∨ j = i by omega) with e | rfl
            · exact hmost j a1 a2 e a4 a5
            · exact absurd a5 h4
        · rw [if_neg h3]
          refine ih b (i + 1) (by omega) (by omega) (by omega) (hb.imp_right fun ⟨b1, b2, b3, b4, b5, b6⟩ => ⟨b1, b2, b3, b4, by omega, b6⟩) (fun j a1 a2 a3 a4 a5 => by omega)
      · rw [if_neg h2]
        exact ⟨b, rfl, hb.imp_right fun ⟨b1, b2, b3, b4, b5, b6⟩ => ⟨b1, b2, b3, b4, b6⟩, fun j a1 a2 a3 a4 a5 => hmost j a1 a2 (by omega) a4 a5⟩
    · rw [if_neg h1]
      exact ⟨b, rfl, hb.imp_right fun ⟨b1, b2, b3, b4, b5, b6⟩ => ⟨b1, b2, b3, b4, b6⟩, fun j a1 a2 a3 a4 a5 => hmost j a1 a2 (by omega) a4 a5⟩

theorem rcommit_eq (K : Nat) (r : api_Replica) (l : List Int) (hl : r.Log.length ≤ 300) (hm : l.length ≤ 50) (hK : 1000 ≤ K) : workflowref53_Commit K r l = quorum_Commit K r l := by
  obtain ⟨c, h1, h2⟩ := commit_eq K r l hl hm hK
  obtain ⟨d, h3, h4⟩ := rcommit_l9 K r l hl hm hK K r.Commit 1 (by omega) (by omega) (by omega) (.inl rfl) (fun j a1 a2 a3 => by omega)
  unfold workflowref53_Commit
  rw [h1, h3, h4.uniq h2]; rfl

/-! #### the examples -/
theorem lives_eq : workflowlaw53_lives 100000 = some true := by
  have a1 : idx [5, 3, 1] = 3 := Option.some.inj ((rindex_eq 100 [5, 3, 1] (by decide) (by decide)).symm.trans (by decide +kernel))
  have a2 : idx [5, 1] = 1 := Option.some.inj ((rindex_eq 100 [5, 1] (by decide) (by decide)).symm.trans (by decide +kernel))
  have e1 : quorum_Majority 100000 5 = some 3 := by decide +kernel
  have e2 : quorum_Won 100000 2 4 = some false := by decide +kernel
  unfold workflowlaw53_lives
  rw [e1]
  simp only [Option.bind_some, if_true]
  rw [e2]
  simp only [Option.bind_some, Bool.false_eq_true, if_false]
  rw [index_idx 100000 [5, 3, 1] (by decide), a1]
  simp only [Option.bind_some, if_true]
  rw [index_idx 100000 [5, 1] (by decide), a2]
  simp only [Option.bind_some, if_true]
  rw [← rcommit_eq 100000 _ _ (by decide) (by decide) (by decide), ← rcommit_eq 100000 _ _ (by decide) (by decide) (by decide)]
  decide +kernel

theorem answers_eq (n v : Int) (l : List Int) (r : api_Replica) (a b : Int) (hn : I64 n) : workflowlaw53_QuorumAnswers 100000 n v l r a b = some true := by
  unfold workflowlaw53_QuorumAnswers
  by_cases h1 : (l.length : Int) > 50
  · rw [if_pos h1]; simp only [Option.bind_some, if_true, lives_eq]
  · rw [if_neg h1]
    by_cases h2 : (r.Log.length : Int) > 300
    · simp only [h2, decide_true, Option.bind_some, if_true, lives_eq]
    · simp only [h2, decide_false, Option.bind_some, Bool.false_eq_true, if_false]
      rw [majority_eq _ _ hn, rmajority_eq _ _ hn]
      simp only [Option.bind_some, if_true]
      rw [won_eq _ _ _ hn, rwon_eq _ _ _ hn]
      simp only [Option.bind_some, beq_self_eq_true, if_true]
      rw [index_idx _ l (by omega), rindex_eq _ l (by omega) (by omega)]
      simp only [Option.bind_some, if_true]
      obtain ⟨c, h3, _⟩ := commit_eq 100000 r l (by omega) (by omega) (by omega)
      rw [rcommit_eq 100000 r l (by omega) (by omega) (by omega), h3]
      simp only [Option.bind_some, if_true]
      have e : workflowref53_Overlap 100000 a b = quorum_Overlap 100000 a b := rfl
      rw [e]
      unfold quorum_Overlap
      simp only [Option.bind_some, beq_self_eq_true, if_true, lives_eq]

theorem cnt_anti {l : List Int} {x y : Int} (h : x ≤ y) : cnt l y ≤ cnt l x := List.countP_mono_left fun z _ hz => by simp at hz ⊢; omega

theorem commits_eq (r : api_Replica) (l : List Int) : workflowlaw53_QuorumCommits 100000 r l = some true := by
  unfold workflowlaw53_QuorumCommits
  by_cases h1 : (l.length : Int) > 50
  · rw [if_pos h1]; simp only [Option.bind_some, if_true, lives_eq]
  · rw [if_neg h1]
    by_cases h2 : (r.Log.length : Int) > 300
    · simp only [h2, decide_true, Option.bind_some, if_true, lives_eq]
    · simp only [h2, decide_false, Option.bind_some, Bool.false_eq_true, if_false]
      obtain ⟨c, h3, g⟩ := commit_eq 100000 r l (by omega) (by omega) (by omega)
      rw [h3]
      simp only [Option.bind_some]
      by_cases hc : c = r.Commit
      · rw [if_pos hc, lives_eq]; rfl
      · rw [if_neg hc]
        rcases g.is with g1 | ⟨g1, g2, g3, g4, g5⟩
        · exact absurd g1 hc
        · rw [if_pos g1, if_pos g2, if_pos g3, Eng.wrap_small (by omega) (by omega), if_pos (by omega), if_pos g5, reach_eq _ _ _ (by omega) (by omega)]
          simp only [Option.bind_some]
          rw [majority_eq _ _ (by unfold I64; omega)]
          simp only [Option.bind_some]
          have h0 : l ≠ [] := by rintro rfl; have : idx [] = 0 := rfl; omega
          obtain ⟨v, hv, _⟩ := index_eq 0 l h0 (by omega)
          have e := idx_med l h0 (by omega) hv
          have hcv : c ≤ v := by rw [e] at g4; split at g4 <;> omega
          have := hv.ge
          have := cnt_anti (l := l) hcv
          rw [if_pos (by omega), lives_eq]; rfl

/-! #### the law on the index -/
theorem index_l25 (K : Nat) (l : List Int) (x : Int) (h0 : l ≠ []) (hl : l.length ≤ 50) (hK : 100 ≤ K) (hx : ∀ y, x < y → (cnt l y : Int) < maj l.length) : ∀ (k n : Nat), l.length - n < k → n ≤ l.length →
    workflowlaw53_QuorumIndex.l25 K l x k (n : Int) = some (Out.go ()) := by
  intro k
  induction k with
  | zero => intro n h; omega
  | succ k ih =>
    intro n h hn
    unfold workflowlaw53_QuorumIndex.l25
    by_cases hlt : n < l.length
    · rw [if_pos (by omega), if_pos (by omega), Int.toNat_natCast, wrap_succ (n := n) (by omega), ih (n + 1) (by omega) (by omega)]
      by_cases hgt : l.getD n 0 > x
      · rw [if_pos hgt, reach_eq K l _ (by omega) (by omega)]
        simp only [Option.bind_some]
        rw [majority_eq K _ (by unfold I64; omega)]
        simp only [Option.bind_some]
        have := hx _ hgt
        rw [if_neg (by omega)]
      · rw [if_neg hgt]
    · rw [if_neg (by omega)]

theorem index_l48 (K : Nat) (l : List Int) (hl : l.length ≤ 50) : ∀ (k n : Nat) (acc : List Int), n < k → n ≤ l.length → acc.length ≤ 50 - n →
    workflowlaw53_QuorumIndex.l48 K l k ((n : Int) - 1) acc = some (acc ++ (l.take n).reverse) := by
  intro k
  induction k with
  | zero => intro n acc h; omega
  | succ k ih =>
    intro n acc h hn ha
    unfold workflowlaw53_QuorumIndex.l48
    cases n with
    | zero => rw [if_neg (by omega)]; simp
    | succ n =>
      have e : ((n + 1 : Nat) : Int) - 1 = (n : Int) := by omega
      rw [e, if_pos (by omega), if_pos (by omega), if_pos (by simp; omega), Int.toNat_natCast, Eng.wrap_small (by omega) (by omega), ih n _ (by omega) (by omega) (by simp; omega)]
      have e2 : l.take (n + 1) = l.take n ++ [l.getD n 0] := by
        rw [List.take_add_one, List.getD_eq_getElem?_getD, List.getElem?_eq_getElem (show n < l.length by omega)]; rfl
      rw [e2, List.reverse_append, List.append_assoc]
      rfl

theorem isMed_perm {l m : List Int} (h : l.Perm m) {v : Int} (hv : IsMed l v) : IsMed m v :=
  ⟨h.mem_iff.1 hv.mem, by rw [← cnt_perm h, ← h.length_eq]; exact hv.ge, fun x hx => by rw [← cnt_perm h, ← h.length_eq]; exact hv.lt x hx⟩

theorem cnt_set (l : List Int) (i : Nat) (h : i < l.length) (y x : Int) (hy : l.getD i 0 ≤ y) : cnt l x ≤ cnt (l.set i y) x := by
  induction l generalizing i with
  | nil => simp at h
  | cons a l ih =>
    cases i with
    | zero =>
      simp at hy
      rw [List.set_cons_zero, cnt_cons, cnt_cons]
      split <;> split <;> omega
    | succ i =>
      rw [List.set_cons_succ, cnt_cons, cnt_cons]
      have := ih i (by simpa using h) (by simpa using hy)
      omega

theorem idx_mono (l m : List Int) (h0 : l ≠ []) (hl : l.length ≤ 50) (hm : m.length = l.length) (hc : ∀ x, cnt l x ≤ cnt m x) : idx l ≤ idx m := by
  have h1 : m ≠ [] := by rintro rfl; cases l <;> simp_all
  obtain ⟨v, hv, _⟩ := index_eq 0 l h0 hl
  obtain ⟨w, hw, _⟩ := index_eq 0 m h1 (by omega)
  rw [idx_med l h0 hl hv, idx_med m h1 (by omega) hw]
  have : v ≤ w := by
    rcases (show w < v ∨ v ≤ w by omega) with h | h
    · have a := hw.lt v h; have b := hv.ge; have c := hc v; rw [hm] at a; omega
    · exact h
  split <;> split <;> omega

theorem qindex_eq (l : List Int) (k more : Int) (hG : ∀ x ∈ l, I64 x) : workflowlaw53_QuorumIndex 100000 l k more = some true := by
  unfold workflowlaw53_QuorumIndex
  by_cases h1 : (l.length : Int) < 1
  · rw [if_pos h1]; simp only [Option.bind_some, if_true, lives_eq]
  rw [if_neg h1]
  by_cases h2 : (l.length : Int) > 50
  · rw [if_pos h2]; simp only [Option.bind_some, if_true, lives_eq]
  rw [if_neg h2]
  by_cases h3 : k < 0
  · rw [if_pos h3]; simp only [Option.bind_some, if_true, lives_eq]
  rw [if_neg h3]
  by_cases h4 : more < 0
  · simp only [h4, decide_true, Option.bind_some, if_true, lives_eq]
  simp only [h4, decide_false, Option.bind_some, Bool.false_eq_true, if_false]
  have h0 : l ≠ [] := by rintro rfl; simp at h1
  have hl : l.length ≤ 50 := by omega
  obtain ⟨v, hv, _⟩ := index_eq 0 l h0 hl
  have e := idx_med l h0 hl hv
  have hnn := idx_nonneg l hl
  rw [index_idx _ l hl]
  simp only [Option.bind_some]
  rw [if_neg (by omega)]
  have hpart : (if idx l > 0 then (Option.bind (workflowlaw53_reach 100000 l (idx l)) (fun a3 => (Option.bind (quorum_Majority 100000 (l.length : Int)) (fun a4 => (if a3 < a4 then some (Out.done false) else some (Out.go ())))))) else some (Out.go ())) = (some (Out.go ()) : Option (Out Bool Unit)) := by
    by_cases hx : idx l > 0
    · rw [if_pos hx, reach_eq _ _ _ (by omega) (by omega)]
      simp only [Option.bind_some]
      rw [majority_eq _ _ (by unfold I64; omega)]
      simp only [Option.bind_some]
      have := hv.ge
      have e2 : idx l = v := by rw [e] at hx ⊢; split at hx <;> omega
      rw [e2, if_neg (by omega)]
    · rw [if_neg hx]
  rw [hpart]
  simp only [obind]
  have h25 : workflowlaw53_QuorumIndex.l25 100000 l (idx l) 100000 0 = some (Out.go ()) := index_l25 100000 l (idx l) h0 hl (by omega) (fun y hy => hv.lt y (by rw [e] at hy; split at hy <;> omega)) 100000 0 (by omega) (by omega)
  rw [h25]
  simp only [obind]
  rw [Eng.wrap_small (x := (l.length : Int) - 1) (by omega) (by omega), index_l48 100000 l hl 100000 l.length [] (by omega) (by omega) (by simp)]
  simp only [Option.bind_some, List.nil_append, List.take_length, List.length_nil, Nat.zero_add]
  rw [if_pos (by omega), if_pos (by omega)]
  have hmod : 0 ≤ Int.tmod k (l.length : Int) ∧ Int.tmod k (l.length : Int) < l.length := ⟨Int.tmod_nonneg _ (by omega), Int.tmod_lt_of_pos _ (by omega)⟩
  obtain ⟨i, hi⟩ : ∃ i : Nat, Int.tmod k (l.length : Int) = i := ⟨(Int.tmod k (l.length : Int)).toNat, by omega⟩
  rw [hi] at hmod ⊢
  have hrev : idx l.reverse = idx l := by
    rw [e, idx_med l.reverse (by simpa using h0) (by simpa using hl) (isMed_perm l.reverse_perm.symm hv)]
  have hhi : ∀ m : List Int, m.length = l.length → (∀ x, cnt l x ≤ cnt m x) → (Option.bind (quorum_Index 100000 l.reverse) (fun a7 => (if a7 = idx l then (Option.bind (quorum_Index 100000 m) (fun a8 => (if a8 ≥ idx l then (Option.bind (workflowlaw53_lives 100000) (fun a9 => some a9)) else some false))) else some false))) = some true := by
    intro m hm hc
    rw [index_idx _ l.reverse (by simpa using hl), hrev]
    simp only [Option.bind_some, if_true]
    rw [index_idx _ m (by omega)]
    simp only [Option.bind_some]
    rw [if_pos (idx_mono l m h0 hl hm hc), lives_eq]; rfl
  have e3 : (0 : Int) ≤ (i : Int) ∧ (i : Int) < (l.length : Int) := ⟨by omega, hmod.2⟩
  rw [show ((i : Int)).toNat = i from Int.toNat_natCast i]
  simp only [if_pos e3, if_pos (show (i : Int) < (l.length : Int) from hmod.2), if_pos (show i < l.length by omega)]
  by_cases ha : l.getD i 0 ≤ 1000000
  · rw [if_pos ha]
    simp only [Option.bind_some]
    by_cases hb : more ≤ 1000000
    · simp only [hb, decide_true, if_true, Option.bind_some]
      refine hhi _ (by rw [List.length_set]) (fun x => ?_)
      have hg := hG _ (Eng.getD_mem (xs := l) (n := i) (by omega) 0)
      unfold I64 at hg
      exact cnt_set l i (by omega) _ x (by rw [Eng.wrap_small (by omega) (by omega)]; omega)
    · simp only [hb, decide_false, Bool.false_eq_true, if_false, Option.bind_some]
      exact hhi l rfl (fun x => Nat.le_refl _)
  · rw [if_neg ha]
    simp only [Option.bind_some, Bool.false_eq_true, if_false]
    exact hhi l rfl (fun x => Nat.le_refl _)

end Go.Proofs.Ytjkfadlomchpjaa
