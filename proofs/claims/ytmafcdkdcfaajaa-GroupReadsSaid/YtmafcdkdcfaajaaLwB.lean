/- The law. -/
import Derived.Test.YtmafcdkdcfaajaaLwA
import Derived.Test.YtmafcdkdcfaajaaMn
set_option linter.unusedVariables false
set_option linter.unusedSimpArgs false
namespace Go.Proofs.Ytmafcdkdcfaajaa
open Eng

theorem works_at (K : Nat) (hK : 100 ≤ K) : workflowlaw55_works K = some true := (workflowlaw55_works.mono hK).at (by decide +kernel)

/-! #### a group that is small -/
def sumL : List api_Replica → Nat
  | [] => 0
  | r :: rs => r.Log.length + sumL rs
theorem sumL_ge : ∀ {rs : List api_Replica} {r : api_Replica}, r ∈ rs → r.Log.length ≤ sumL rs
  | [], r, h => by cases h
  | x :: rs, r, h => by
    unfold sumL
    rcases List.mem_cons.1 h with rfl | h
    · omega
    · have := sumL_ge h; omega

theorem Small_l9 (K : Nat) (g : workflowref55_Group) (hx : g.Replicas.length ≤ 140737488355328) (hL : ∀ r ∈ g.Replicas, r.Log.length ≤ 140737488355328) : ∀ (k n : Nat) (c : Int), g.Replicas.length - n < k → n ≤ g.Replicas.length →
    ∃ v, workflowref55_Small.l9 K g k c (n : Int) = some v ∧ (g.Replicas.length ≤ 12 → 0 ≤ c → c ≤ (n : Int) * 140737488355328 → v = c + (sumL (g.Replicas.drop n) : Nat)) := by
  intro k
  induction k with
  | zero => intro n c h; omega
  | succ k ih =>
    intro n c h hn
    unfold workflowref55_Small.l9
    by_cases hlt : n < g.Replicas.length
    · have hm := hL _ (getD_mem hlt z_api_Replica)
      rw [if_pos (by omega), if_pos (by omega), Int.toNat_natCast, wrap_succ (by omega)]
      obtain ⟨v, h1, h2⟩ := ih (n + 1) (IntKind.i64.wrap (c + ((g.Replicas.getD n z_api_Replica).Log.length : Int))) (by omega) (by omega)
      refine ⟨v, h1, fun h12 h0 hc => ?_⟩
      have hw : IntKind.i64.wrap (c + ((g.Replicas.getD n z_api_Replica).Log.length : Int)) = c + ((g.Replicas.getD n z_api_Replica).Log.length : Int) := Eng.wrap_small (by omega) (by omega)
      rw [hw] at h2
      rw [h2 h12 (by omega) (by omega), drop_step hlt z_api_Replica]
      simp only [sumL]
      omega
    · rw [if_neg (by omega), drop_end hlt]
      exact ⟨c, rfl, fun _ _ _ => by simp [sumL]⟩

structure Little (g : workflowref55_Group) (D : Nat) : Prop where
  n : g.Replicas.length ≤ 12
  u : g.Up.length ≤ 12
  held : ∀ r ∈ g.Replicas, Held r D

/-- What is known of a group that came in. -/
structure Came (K D : Nat) (g : workflowref55_Group) : Prop where
  n : g.Replicas.length ≤ 140737488355328
  k : g.Replicas.length < K
  l : ∀ r ∈ g.Replicas, r.Log.length ≤ 140737488355328
  d : ∀ r ∈ g.Replicas, ∀ x ∈ r.Log, x.Data.length ≤ D

theorem Small_eq {K D : Nat} {g : workflowref55_Group} (h : Came K D g) : (Little g D ∧ workflowref55_Small K g = some true) ∨ workflowref55_Small K g = some false := by
  unfold workflowref55_Small
  obtain ⟨v, h1, h2⟩ := Small_l9 K g h.n h.l K 0 0 (by have := h.k; omega) (by omega)
  rw [show ((0 : Nat) : Int) = 0 from rfl] at h1
  rw [h1]
  simp only [Option.bind_some]
  by_cases a1 : g.Replicas.length ≤ 12
  · rw [if_pos (by omega)]
    by_cases a2 : g.Up.length ≤ 12
    · rw [if_pos (by omega)]
      have hv := h2 a1 (by omega) (by omega)
      simp only [List.drop_zero] at hv
      by_cases a3 : v ≤ 2000
      · exact .inl ⟨⟨a1, a2, fun r hr => ⟨by have := sumL_ge hr; omega, h.d r hr⟩⟩, by simp [a3]⟩
      · exact .inr (by simp [a3])
    · rw [if_neg (by omega)]; exact .inr rfl
  · rw [if_neg (by omega)]; exact .inr rfl

/-! #### New -/
def newc (K : Nat) (n : Int) : Option Bool := Option.bind (group_New K n) fun x => Option.bind (workflowref55_New K n) fun y => if x.2 = y.2 then workflowref55_Same K ⟨x.1.Replicas, x.1.Up, x.1.Leader, x.1.Epoch⟩ ⟨y.1.Replicas, y.1.Up, y.1.Leader, y.1.Epoch⟩ else some false

theorem newc.mono {K K' : Nat} (hK : K ≤ K') (n : Int) : Le (newc K n) (newc K' n) :=
  Le.bind (group_New.mono hK n) fun x => Le.bind (workflowref55_New.mono hK n) fun y => Le.ite (workflowref55_Same.mono hK _ _) (Le.refl _)

theorem new_at (K : Nat) (n : Int) (hK : 100 ≤ K) : newc K n = some true := by
  by_cases h1 : n < 1
  · unfold newc group_New workflowref55_New
    rw [if_pos h1, if_pos h1]
    exact (workflowref55_Same.mono hK ⟨[], [], 0, 0⟩ ⟨[], [], 0, 0⟩).at (by decide +kernel)
  · by_cases h2 : n > 9
    · unfold newc group_New workflowref55_New
      rw [if_neg h1, if_neg h1, if_pos h2, if_pos h2]
      exact (workflowref55_Same.mono hK ⟨[], [], 0, 0⟩ ⟨[], [], 0, 0⟩).at (by decide +kernel)
    · have : n = 1 ∨ n = 2 ∨ n = 3 ∨ n = 4 ∨ n = 5 ∨ n = 6 ∨ n = 7 ∨ n = 8 ∨ n = 9 := by omega
      rcases this with rfl | rfl | rfl | rfl | rfl | rfl | rfl | rfl | rfl
      all_goals exact (newc.mono hK _).at (by decide +kernel)

theorem new_parts (K : Nat) (n : Int) (hK : 100 ≤ K) : ∃ x y, group_New K n = some x ∧ workflowref55_New K n = some y ∧ x.2 = y.2 ∧ workflowref55_Same K ⟨x.1.Replicas, x.1.Up, x.1.Leader, x.1.Epoch⟩ ⟨y.1.Replicas, y.1.Up, y.1.Leader, y.1.Epoch⟩ = some true := by
  have h := new_at K n hK
  unfold newc at h
  obtain ⟨x, h1, h⟩ := bind_some h
  obtain ⟨y, h2, h⟩ := bind_some h
  refine ⟨x, y, h1, h2, ?_⟩
  by_cases h3 : x.2 = y.2
  · rw [if_pos h3] at h; exact ⟨h3, h⟩
  · rw [if_neg h3] at h; cases h

/-! #### Committed -/
theorem pick_l9 (K : Nat) (g : group_Group) (f : workflowref55_Group) (hf : f.Replicas = g.Replicas) (hx : g.Replicas.length ≤ 12) : ∀ (k n : Nat) (b : Int), g.Replicas.length - n < k → n ≤ g.Replicas.length → (b < 0 ∨ (0 ≤ b ∧ b < g.Replicas.length)) →
    ∃ v : Int, (v < 0 ∨ (0 ≤ v ∧ v < g.Replicas.length)) ∧ group_Committed.l9 K g k b (n : Int) = some v ∧ workflowref55_Committed.l9 K f k b (n : Int) = some v := by
  intro k
  induction k with
  | zero => intro n b h; omega
  | succ k ih =>
    intro n b h hn hb
    unfold group_Committed.l9 workflowref55_Committed.l9
    rw [hf]
    by_cases hlt : n < g.Replicas.length
    · have q1 : (n : Int) < g.Replicas.length := by omega
      have q2 : (0 : Int) ≤ n ∧ (n : Int) < g.Replicas.length := by omega
      simp only [if_pos q1, if_pos q2]
      rw [wrap_succ (by omega)]
      rcases hb with hb | hb
      · simp only [if_pos hb]
        exact ih (n + 1) n (by omega) (by omega) (by omega)
      · have q3 : ¬ b < 0 := by omega
        simp only [if_neg q3, if_pos hb]
        split
        · exact ih (n + 1) n (by omega) (by omega) (by omega)
        · exact ih (n + 1) b (by omega) (by omega) (.inr hb)
    · rw [if_neg (by omega), if_neg (by omega)]
      exact ⟨b, hb, rfl, rfl⟩

theorem committed_parts {K D : Nat} {g : group_Group} {f : workflowref55_Group} (hf : f.Replicas = g.Replicas) (hl : Little f D) (hK : 100000 ≤ K) (hD : D ≤ 140737488355328) :
    ∃ l : List (List UInt8), group_Committed K g = some l ∧ workflowref55_Committed K f = some l ∧ l.length ≤ 2000 ∧ ∀ x ∈ l, x.length ≤ D := by
  have hn := hl.n
  rw [hf] at hn
  obtain ⟨v, hv, h1, h2⟩ := pick_l9 K g f hf hn K 0 (-1) (by omega) (by omega) (.inl (by omega))
  rw [show ((0 : Nat) : Int) = 0 from rfl] at h1 h2
  unfold group_Committed workflowref55_Committed
  rw [h1, h2]
  simp only [Option.bind_some]
  by_cases h0 : v < 0
  · rw [if_pos h0, if_pos h0]
    exact ⟨[], rfl, rfl, by simp, by simp⟩
  · have hlt : v.toNat < g.Replicas.length := by omega
    have hm : g.Replicas.getD v.toNat z_api_Replica ∈ f.Replicas := by rw [hf]; exact getD_mem hlt z_api_Replica
    obtain ⟨c1, c2⟩ := hl.held _ hm
    rw [if_neg h0, if_neg h0, if_pos (by omega), hf, if_pos (by omega), Committed_eq K _ c1 (fun x hx => Nat.le_trans (c2 x hx) hD) (by omega), rCommitted_eq K _ c1 (by omega)]
    refine ⟨_, rfl, rfl, ?_, fun x hx => ?_⟩
    · rw [List.length_map, List.length_take]; omega
    · obtain ⟨y, hy, rfl⟩ := List.mem_map.1 hx
      exact c2 y (List.mem_of_mem_take hy)

/-! #### Safe -/
theorem safe_in {K D : Nat} {g : group_Group} {f : workflowref55_Group} (hf : f.Replicas = g.Replicas) (hl : Little f D) (hK : 100000 ≤ K) (hKD : D < K) (hD : D ≤ 140737488355328) (i : Nat) (hi : i < g.Replicas.length) : ∀ (k n : Nat), i - n < k → n ≤ i →
    ∃ o, group_Safe.l21 K g (i : Int) k (n : Int) = some o ∧ workflowref55_Safe.l19 K f (i : Int) k (n : Int) = some o := by
  have hn := hl.n
  rw [hf] at hn
  have hh : ∀ j, j < g.Replicas.length → Held (g.Replicas.getD j z_api_Replica) D := fun j hj => hl.held _ (by rw [hf]; exact getD_mem hj z_api_Replica)
  have hs : (slc g.Replicas 0 (i : Int)) = g.Replicas.take i := by rw [slc_take]; rfl
  intro k
  induction k with
  | zero => intro n h; omega
  | succ k ih =>
    intro n h hni
    unfold group_Safe.l21 workflowref55_Safe.l19
    rw [hf, hs, List.length_take, Nat.min_eq_left (by omega)]
    by_cases hlt : n < i
    · have hg : (g.Replicas.take i).getD n z_api_Replica = g.Replicas.getD n z_api_Replica := by
        rw [List.getD_eq_getElem?_getD, List.getD_eq_getElem?_getD, List.getElem?_take, if_pos hlt]
      have q1 : (n : Int) < i := by omega
      have q2 : (0 : Int) ≤ n ∧ (n : Int) < i := by omega
      have q3 : (0 : Int) ≤ i ∧ (i : Int) < g.Replicas.length := by omega
      have q4 : (0 : Int) ≤ n ∧ (n : Int) < g.Replicas.length := by omega
      simp only [if_pos q1, if_pos q2, if_pos q3, if_pos q4]
      rw [Int.toNat_natCast, Int.toNat_natCast, hg,
        Common_eq K _ _ (hh i hi).1 (hh n (by omega)).1 (by omega), rCommonH_eq K D _ _ (hh i hi) (hh n (by omega)) hKD (by omega) hD]
      simp only [Option.bind_some]
      rw [wrap_succ (by omega)]
      obtain ⟨o, o1, o2⟩ := ih (n + 1) (by omega) (by omega)
      by_cases hc : (g.Replicas.getD n z_api_Replica).Commit < (g.Replicas.getD i z_api_Replica).Commit
      · simp only [if_pos hc, Option.bind_some]
        split
        · exact ⟨_, rfl, rfl⟩
        · exact ⟨o, o1, o2⟩
      · simp only [if_neg hc, Option.bind_some]
        split
        · exact ⟨_, rfl, rfl⟩
        · exact ⟨o, o1, o2⟩
    · rw [if_neg (by omega), if_neg (by omega)]
      exact ⟨_, rfl, rfl⟩

theorem safe_out {K D : Nat} {g : group_Group} {f : workflowref55_Group} (hf : f.Replicas = g.Replicas) (hl : Little f D) (hK : 100000 ≤ K) (hKD : D < K) (hD : D ≤ 140737488355328) : ∀ (k n : Nat), g.Replicas.length - n < k → n ≤ g.Replicas.length →
    ∃ o, group_Safe.l7 K g k (n : Int) = some o ∧ workflowref55_Safe.l7 K f k (n : Int) = some o := by
  have hn := hl.n
  rw [hf] at hn
  intro k
  induction k with
  | zero => intro n h; omega
  | succ k ih =>
    intro n h hni
    unfold group_Safe.l7 workflowref55_Safe.l7
    rw [hf]
    by_cases hlt : n < g.Replicas.length
    · obtain ⟨o, o1, o2⟩ := safe_in hf hl hK hKD hD n hlt K 0 (by omega) (by omega)
      rw [show ((0 : Nat) : Int) = 0 from rfl] at o1 o2
      rw [if_pos (by omega), if_pos (by omega), if_pos (by omega), if_pos (by omega), o1, o2, wrap_succ (by omega)]
      cases o with
      | done a => exact ⟨_, rfl, rfl⟩
      | go x => exact ih (n + 1) (by omega) (by omega)
    · rw [if_neg (by omega), if_neg (by omega)]
      exact ⟨_, rfl, rfl⟩

theorem safe_parts {K D : Nat} {g : group_Group} {f : workflowref55_Group} (hf : f.Replicas = g.Replicas) (hl : Little f D) (hK : 100000 ≤ K) (hKD : D < K) (hD : D ≤ 140737488355328) : ∃ b, group_Safe K g = some b ∧ workflowref55_Safe K f = some b := by
  have hn := hl.n
  rw [hf] at hn
  obtain ⟨o, o1, o2⟩ := safe_out hf hl hK hKD hD K 0 (by omega) (by omega)
  rw [show ((0 : Nat) : Int) = 0 from rfl] at o1 o2
  unfold group_Safe workflowref55_Safe
  rw [o1, o2]
  cases o with
  | done a => exact ⟨_, rfl, rfl⟩
  | go x => exact ⟨_, rfl, rfl⟩

/-! #### Same -/
def sameL : List api_Replica → List api_Replica → Bool
  | x :: xs, y :: ys => sameB x y && sameL xs ys
  | [], [] => true
  | _, _ => false
theorem sameL_len : ∀ {xs ys : List api_Replica}, sameL xs ys = true → xs.length = ys.length
  | [], [], _ => rfl
  | [], _ :: _, h => by simp [sameL] at h
  | _ :: _, [], h => by simp [sameL] at h
  | x :: xs, y :: ys, h => by
    unfold sameL at h
    simp only [Bool.and_eq_true] at h
    simp [sameL_len h.2]

theorem EqF_l15 {K D : Nat} (xs ys : List api_Replica) (hx : ∀ r ∈ xs, Held r D) (hl : xs.length ≤ 12) (he : xs.length = ys.length) (hK : 100000 ≤ K) : ∀ (k n : Nat), xs.length - n < k → n ≤ xs.length →
    slices_EqualFunc_25.l15 K xs ys k (n : Int) = some (if sameL (xs.drop n) (ys.drop n) = true then Out.go () else Out.done false) := by
  intro k
  induction k with
  | zero => intro n h; omega
  | succ k ih =>
    intro n h hn
    unfold slices_EqualFunc_25.l15
    by_cases hlt : n < xs.length
    · rw [if_pos (by omega), if_pos (by omega), if_pos (by omega), Int.toNat_natCast, SameP_eq K _ _ (hx _ (getD_mem hlt z_api_Replica)).1 (by omega), wrap_succ (by omega), ih (n + 1) (by omega) (by omega), drop_step hlt z_api_Replica, drop_step (xs := ys) (n := n) (by omega) z_api_Replica]
      simp only [Option.bind_some, sameL]
      by_cases h1 : sameB (xs.getD n z_api_Replica) (ys.getD n z_api_Replica) = true
      · simp only [h1, Bool.true_and, if_true]
      · simp only [Bool.not_eq_true] at h1; simp only [h1, Bool.false_and, Bool.false_eq_true, if_false]
    · rw [if_neg (by omega), drop_end hlt, drop_end (xs := ys) (by omega)]
      rfl

theorem rSameG_l15 {K D : Nat} (f h : workflowref55_Group) (hf : ∀ r ∈ f.Replicas, Held r D) (hh : ∀ r ∈ h.Replicas, Held r D) (hl : f.Replicas.length ≤ 12) (he : f.Replicas.length = h.Replicas.length) (hK : 100000 ≤ K) (hKD : D < K) (hD : D ≤ 140737488355328) : ∀ (k n : Nat), f.Replicas.length - n < k → n ≤ f.Replicas.length →
    workflowref55_Same.l15 K f h k (n : Int) = some (if sameL (f.Replicas.drop n) (h.Replicas.drop n) = true then Out.go () else Out.done false) := by
  intro k
  induction k with
  | zero => intro n h; omega
  | succ k ih =>
    intro n hk hn
    unfold workflowref55_Same.l15
    by_cases hlt : n < f.Replicas.length
    · rw [if_pos (by omega), if_pos (by omega), if_pos (by omega), Int.toNat_natCast, rSame_eq K D _ _ (hf _ (getD_mem hlt z_api_Replica)) (hh _ (getD_mem (by omega) z_api_Replica)) hKD (by omega) hD, wrap_succ (by omega), ih (n + 1) (by omega) (by omega), drop_step hlt z_api_Replica, drop_step (xs := h.Replicas) (n := n) (by omega) z_api_Replica]
      simp only [Option.bind_some, sameL]
      by_cases h1 : sameB (f.Replicas.getD n z_api_Replica) (h.Replicas.getD n z_api_Replica) = true
      · simp only [h1, Bool.true_and, if_true]
      · simp only [Bool.not_eq_true] at h1; simp only [h1, Bool.false_and, Bool.false_eq_true, if_false]
    · rw [if_neg (by omega), drop_end hlt, drop_end (xs := h.Replicas) (by omega)]
      rfl

theorem Eq_l15 {K : Nat} (xs ys : List Bool) (hl : xs.length ≤ 12) (he : xs.length = ys.length) : ∀ (k n : Nat), xs.length - n < k → n ≤ xs.length →
    slices_Equal_27.l15 K xs ys k (n : Int) = some (if xs.drop n = ys.drop n then Out.go () else Out.done false) := by
  intro k
  induction k with
  | zero => intro n h; omega
  | succ k ih =>
    intro n h hn
    unfold slices_Equal_27.l15
    by_cases hlt : n < xs.length
    · rw [if_pos (by omega), if_pos (by omega), if_pos (by omega), Int.toNat_natCast, wrap_succ (by omega), ih (n + 1) (by omega) (by omega), drop_step hlt false, drop_step (xs := ys) (n := n) (by omega) false]
      by_cases h1 : xs.getD n false = ys.getD n false
      · rw [if_pos (by rw [h1]; simp)]
        simp only [h1, List.cons.injEq, true_and]
      · rw [if_neg (by simpa using h1)]
        simp only [List.cons.injEq, h1, false_and, if_false]
    · rw [if_neg (by omega), drop_end hlt, drop_end (xs := ys) (by omega)]
      rfl

theorem rSameG_l36 {K : Nat} (f h : workflowref55_Group) (hl : f.Up.length ≤ 12) (he : f.Up.length = h.Up.length) : ∀ (k n : Nat), f.Up.length - n < k → n ≤ f.Up.length →
    workflowref55_Same.l36 K f h k (n : Int) = some (if f.Up.drop n = h.Up.drop n then Out.go () else Out.done false) := by
  intro k
  induction k with
  | zero => intro n h; omega
  | succ k ih =>
    intro n hk hn
    unfold workflowref55_Same.l36
    by_cases hlt : n < f.Up.length
    · rw [if_pos (by omega), if_pos (by omega), if_pos (by omega), Int.toNat_natCast, wrap_succ (by omega), ih (n + 1) (by omega) (by omega), drop_step hlt false, drop_step (xs := h.Up) (n := n) (by omega) false]
      by_cases h1 : f.Up.getD n false = h.Up.getD n false
      · rw [if_pos (by rw [h1]; simp)]
        simp only [h1, List.cons.injEq, true_and]
      · rw [if_neg (by simpa using h1)]
        simp only [List.cons.injEq, h1, false_and, if_false]
    · rw [if_neg (by omega), drop_end hlt, drop_end (xs := h.Up) (by omega)]
      rfl

def sameG (f h : workflowref55_Group) : Bool := sameL f.Replicas h.Replicas && (decide (f.Up = h.Up) && (decide (f.Leader = h.Leader) && decide (f.Epoch = h.Epoch)))

theorem group_Same_eq {K D : Nat} (f h : workflowref55_Group) (hf : Little f D) (hK : 100000 ≤ K) : group_Same K ⟨f.Replicas, f.Up, f.Leader, f.Epoch⟩ ⟨h.Replicas, h.Up, h.Leader, h.Epoch⟩ = some (sameG f h) := by
  have hn := hf.n
  have hu := hf.u
  unfold group_Same sameG slices_EqualFunc_25 slices_Equal_27
  dsimp only
  by_cases h1 : f.Replicas.length = h.Replicas.length
  · have e1 := EqF_l15 f.Replicas h.Replicas hf.held hn h1 hK K 0 (by omega) (by omega)
    rw [show ((0 : Nat) : Int) = 0 from rfl] at e1
    simp only [List.drop_zero] at e1
    rw [if_neg (by omega), e1]
    by_cases h2 : sameL f.Replicas h.Replicas = true
    · rw [if_pos h2, h2]
      simp only [obind, Option.bind_some, if_true]
      by_cases h3 : f.Up.length = h.Up.length
      · have e2 := Eq_l15 (K := K) f.Up h.Up hu h3 K 0 (by omega) (by omega)
        rw [show ((0 : Nat) : Int) = 0 from rfl] at e2
        simp only [List.drop_zero] at e2
        rw [if_neg (by omega), e2]
        by_cases h4 : f.Up = h.Up
        · rw [if_pos h4]
          simp only [Option.bind_some, if_true, h4, decide_true, Bool.true_and]
          by_cases h5 : f.Leader = h.Leader
          · rw [if_pos h5]; simp [h5]
          · rw [if_neg h5]; simp [h5]
        · rw [if_neg h4]; simp [h4]
      · rw [if_pos (by omega)]
        have : ¬ f.Up = h.Up := fun e => h3 (by rw [e])
        simp [this]
    · rw [if_neg h2]
      simp only [Bool.not_eq_true] at h2
      rw [h2]
      simp [obind]
  · rw [if_pos (by omega)]
    have : sameL f.Replicas h.Replicas = false := by
      cases hh : sameL f.Replicas h.Replicas with
      | false => rfl
      | true => exact absurd (sameL_len hh) h1
    rw [this]
    simp

theorem rSameG_eq {K D : Nat} (f h : workflowref55_Group) (hf : Little f D) (hh : Little h D) (hK : 100000 ≤ K) (hKD : D < K) (hD : D ≤ 140737488355328) : workflowref55_Same K f h = some (sameG f h) := by
  have hn := hf.n
  have hu := hf.u
  unfold workflowref55_Same sameG
  by_cases h1 : f.Replicas.length = h.Replicas.length
  · have e1 := rSameG_l15 f h hf.held hh.held hn h1 hK hKD hD K 0 (by omega) (by omega)
    rw [show ((0 : Nat) : Int) = 0 from rfl] at e1
    simp only [List.drop_zero] at e1
    rw [if_neg (by omega), e1]
    by_cases h3 : f.Up.length = h.Up.length
    · have e2 := rSameG_l36 (K := K) f h hu h3 K 0 (by omega) (by omega)
      rw [show ((0 : Nat) : Int) = 0 from rfl] at e2
      simp only [List.drop_zero] at e2
      rw [if_neg (by omega), e2]
      by_cases h5 : f.Leader = h.Leader
      · rw [if_neg (by simpa using h5)]
        by_cases h6 : f.Epoch = h.Epoch
        · rw [if_neg (by simpa using h6)]
          by_cases h2 : sameL f.Replicas h.Replicas = true
          · rw [if_pos h2, h2]
            by_cases h4 : f.Up = h.Up
            · rw [if_pos h4]; simp [obind, h4, h5, h6]
            · rw [if_neg h4]; simp [obind, h4]
          · rw [if_neg h2]
            simp only [Bool.not_eq_true] at h2
            rw [h2]
            simp [obind]
        · rw [if_pos (by simpa using h6)]; simp [h6]
      · rw [if_pos (by simpa using h5)]; simp [h5]
    · rw [if_pos (by omega)]
      have : ¬ f.Up = h.Up := fun e => h3 (by rw [e])
      simp [this]
  · rw [if_pos (by omega)]
    have : sameL f.Replicas h.Replicas = false := by
      cases hh : sameL f.Replicas h.Replicas with
      | false => rfl
      | true => exact absurd (sameL_len hh) h1
    rw [this]
    simp

theorem law_reads {K D : Nat} (a b : workflowref55_Group) (n : Int) (ha : Came K D a) (hb : Came K D b) (hK : 100000 ≤ K) (hKD : D < K) (hD : D ≤ 140737488355328) : workflowlaw55_GroupReads K a b n = some true := by
  have hw := works_at K (by omega)
  unfold workflowlaw55_GroupReads
  rcases Small_eq ha with ⟨la, sa⟩ | sa
  · rcases Small_eq hb with ⟨lb, sb⟩ | sb
    · rw [sa, sb]
      obtain ⟨x, y, n1, n2, n3, n4⟩ := new_parts K n (by omega)
      simp only [Option.bind_some, if_true, Bool.not_true, Bool.false_eq_true, if_false]
      rw [n1, n2]
      simp only [Option.bind_some]
      rw [if_pos n3]
      unfold workflowlaw55_back workflowlaw55_of
      simp only [Option.bind_some]
      rw [n4]
      simp only [Option.bind_some, if_true]
      obtain ⟨l, c1, c2, c3, c4⟩ := committed_parts (g := ⟨a.Replicas, a.Up, a.Leader, a.Epoch⟩) (f := a) rfl la hK hD
      rw [c1, c2]
      simp only [Option.bind_some]
      rw [SameData_eq K D l c3 c4 hKD (by omega) hD]
      simp only [Option.bind_some, if_true]
      obtain ⟨s, s1, s2⟩ := safe_parts (g := ⟨a.Replicas, a.Up, a.Leader, a.Epoch⟩) (f := a) rfl la hK hKD hD
      rw [s1, s2]
      simp only [Option.bind_some]
      rw [if_pos (by simp), group_Same_eq a b la hK, rSameG_eq a b la lb hK hKD hD]
      simp only [Option.bind_some]
      rw [if_pos (by simp), hw]
      rfl
    · rw [sa, sb]
      simp only [Option.bind_some, if_true, Bool.not_false]
      rw [hw]; rfl
  · rw [sa]
    simp only [Option.bind_some, if_true, Bool.false_eq_true, if_false]
    rw [hw]; rfl

end Go.Proofs.Ytmafcdkdcfaajaa
