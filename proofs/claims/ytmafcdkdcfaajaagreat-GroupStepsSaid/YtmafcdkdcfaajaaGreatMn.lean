/- More fuel gives the same results. -/
import Derived.Test.YtmafcdkdcfaajaaGreatFn4
set_option linter.unusedVariables false
set_option maxHeartbeats 0
namespace Go.Proofs.YtmafcdkdcfaajaaGreat
open Eng
theorem slices_Clone_61.mono {K K' : Nat} (hK : K ≤ K') (p0 : List Bool) : Le (slices_Clone_61 K p0) (slices_Clone_61 K' p0) := by
  unfold slices_Clone_61
  repeat' (first | exact Le.refl _ | exact Le.none _ | with_reducible apply Le.ite | with_reducible apply Le.bind | with_reducible apply Le.obind | intro _ | split)
theorem bytes_Clone_59.mono {K K' : Nat} (hK : K ≤ K') (p0 : List UInt8) : Le (bytes_Clone_59 K p0) (bytes_Clone_59 K' p0) := by
  unfold bytes_Clone_59
  repeat' (first | exact Le.refl _ | exact Le.none _ | with_reducible apply Le.ite | with_reducible apply Le.bind | with_reducible apply Le.obind | intro _ | split)
theorem replog_in.mono {K K' : Nat} (hK : K ≤ K') (p0 : Int) (p1 : Int) (p2 : Int) : Le (replog_in K p0 p1 p2) (replog_in K' p0 p1 p2) := by
  unfold replog_in
  repeat' (first | exact Le.refl _ | exact Le.none _ | with_reducible apply Le.ite | with_reducible apply Le.bind | with_reducible apply Le.obind | intro _ | split)
theorem replog_rising.l7.mono {K K' : Nat} (hK : K ≤ K') (p0 : List api_Entry) : ∀ (k k' : Nat), k ≤ k' → ∀ y0 y1, Le (replog_rising.l7 K p0 k y0 y1) (replog_rising.l7 K' p0 k' y0 y1) := by
  intro k
  induction k with
  | zero => intros; exact Le.none _
  | succ k ih =>
    intro k' hk y0 y1
    cases k' with
    | zero => omega
    | succ k' =>
      unfold replog_rising.l7
      repeat' (first | exact ih _ (by omega) _ _ | exact Le.refl _ | exact Le.none _ | with_reducible apply Le.ite | with_reducible apply Le.bind | with_reducible apply Le.obind | intro _ | split)
theorem replog_rising.mono {K K' : Nat} (hK : K ≤ K') (p0 : List api_Entry) (p1 : Int) (p2 : Int) : Le (replog_rising K p0 p1 p2) (replog_rising K' p0 p1 p2) := by
  unfold replog_rising
  repeat' (first | exact Le.refl _ | exact Le.none _ | exact replog_rising.l7.mono hK _ _ _ hK _ _ | with_reducible apply Le.ite | with_reducible apply Le.bind | with_reducible apply Le.obind | intro _ | split)
theorem replog_Right.mono {K K' : Nat} (hK : K ≤ K') (p0 : api_Replica) : Le (replog_Right K p0) (replog_Right K' p0) := by
  unfold replog_Right
  repeat' (first | exact Le.refl _ | exact Le.none _ | exact replog_in.mono hK _ _ _ | exact replog_rising.mono hK _ _ _ | with_reducible apply Le.ite | with_reducible apply Le.bind | with_reducible apply Le.obind | intro _ | split)
theorem group_Group_formed_c1.mono {K K' : Nat} (hK : K ≤ K') (p0 : api_Replica) : Le (group_Group_formed_c1 K p0) (group_Group_formed_c1 K' p0) := by
  unfold group_Group_formed_c1
  repeat' (first | exact Le.refl _ | exact Le.none _ | exact replog_Right.mono hK _ | with_reducible apply Le.ite | with_reducible apply Le.bind | with_reducible apply Le.obind | intro _ | split)
theorem slices_IndexFunc_99.l7.mono {K K' : Nat} (hK : K ≤ K') (p0 : List api_Replica) : ∀ (k k' : Nat), k ≤ k' → ∀ y0, Le (slices_IndexFunc_99.l7 K p0 k y0) (slices_IndexFunc_99.l7 K' p0 k' y0) := by
  intro k
  induction k with
  | zero => intros; exact Le.none _
  | succ k ih =>
    intro k' hk y0
    cases k' with
    | zero => omega
    | succ k' =>
      unfold slices_IndexFunc_99.l7
      repeat' (first | exact ih _ (by omega) _ | exact Le.refl _ | exact Le.none _ | exact group_Group_formed_c1.mono hK _ | with_reducible apply Le.ite | with_reducible apply Le.bind | with_reducible apply Le.obind | intro _ | split)
theorem slices_IndexFunc_99.mono {K K' : Nat} (hK : K ≤ K') (p0 : List api_Replica) : Le (slices_IndexFunc_99 K p0) (slices_IndexFunc_99 K' p0) := by
  unfold slices_IndexFunc_99
  repeat' (first | exact Le.refl _ | exact Le.none _ | exact slices_IndexFunc_99.l7.mono hK _ _ _ hK _ | with_reducible apply Le.ite | with_reducible apply Le.bind | with_reducible apply Le.obind | intro _ | split)
theorem slices_ContainsFunc_91.mono {K K' : Nat} (hK : K ≤ K') (p0 : List api_Replica) : Le (slices_ContainsFunc_91 K p0) (slices_ContainsFunc_91 K' p0) := by
  unfold slices_ContainsFunc_91
  repeat' (first | exact Le.refl _ | exact Le.none _ | exact slices_IndexFunc_99.mono hK _ | with_reducible apply Le.ite | with_reducible apply Le.bind | with_reducible apply Le.obind | intro _ | split)
theorem group_Group_formed.mono {K K' : Nat} (hK : K ≤ K') (p0 : group_Group) : Le (group_Group_formed K p0) (group_Group_formed K' p0) := by
  unfold group_Group_formed
  repeat' (first | exact Le.refl _ | exact Le.none _ | exact slices_ContainsFunc_91.mono hK _ | with_reducible apply Le.ite | with_reducible apply Le.bind | with_reducible apply Le.obind | intro _ | split)
theorem group_Group_member.mono {K K' : Nat} (hK : K ≤ K') (p0 : group_Group) (p1 : Int) : Le (group_Group_member K p0 p1) (group_Group_member K' p0 p1) := by
  unfold group_Group_member
  repeat' (first | exact Le.refl _ | exact Le.none _ | with_reducible apply Le.ite | with_reducible apply Le.bind | with_reducible apply Le.obind | intro _ | split)
theorem group_Group_suits_c1.mono {K K' : Nat} (hK : K ≤ K') (p0 : Int) (p1 : group_Group) : Le (group_Group_suits_c1 K p0 p1) (group_Group_suits_c1 K' p0 p1) := by
  unfold group_Group_suits_c1
  repeat' (first | exact Le.refl _ | exact Le.none _ | exact group_Group_member.mono hK _ _ | with_reducible apply Le.ite | with_reducible apply Le.bind | with_reducible apply Le.obind | intro _ | split)
theorem slices_IndexFunc_84.l7.mono {K K' : Nat} (hK : K ≤ K') (p0 : List Int) (p1 : group_Group) : ∀ (k k' : Nat), k ≤ k' → ∀ y0, Le (slices_IndexFunc_84.l7 K p0 p1 k y0) (slices_IndexFunc_84.l7 K' p0 p1 k' y0) := by
  intro k
  induction k with
  | zero => intros; exact Le.none _
  | succ k ih =>
    intro k' hk y0
    cases k' with
    | zero => omega
    | succ k' =>
      unfold slices_IndexFunc_84.l7
      repeat' (first | exact ih _ (by omega) _ | exact Le.refl _ | exact Le.none _ | exact group_Group_suits_c1.mono hK _ _ | with_reducible apply Le.ite | with_reducible apply Le.bind | with_reducible apply Le.obind | intro _ | split)
theorem slices_IndexFunc_84.mono {K K' : Nat} (hK : K ≤ K') (p0 : List Int) (p1 : group_Group) : Le (slices_IndexFunc_84 K p0 p1) (slices_IndexFunc_84 K' p0 p1) := by
  unfold slices_IndexFunc_84
  repeat' (first | exact Le.refl _ | exact Le.none _ | exact slices_IndexFunc_84.l7.mono hK _ _ _ _ hK _ | with_reducible apply Le.ite | with_reducible apply Le.bind | with_reducible apply Le.obind | intro _ | split)
theorem slices_ContainsFunc_55.mono {K K' : Nat} (hK : K ≤ K') (p0 : List Int) (p1 : group_Group) : Le (slices_ContainsFunc_55 K p0 p1) (slices_ContainsFunc_55 K' p0 p1) := by
  unfold slices_ContainsFunc_55
  repeat' (first | exact Le.refl _ | exact Le.none _ | exact slices_IndexFunc_84.mono hK _ _ | with_reducible apply Le.ite | with_reducible apply Le.bind | with_reducible apply Le.obind | intro _ | split)
theorem group_Group_suits.mono {K K' : Nat} (hK : K ≤ K') (p0 : group_Group) (p1 : Int) (p2 : List Int) : Le (group_Group_suits K p0 p1 p2) (group_Group_suits K' p0 p1 p2) := by
  unfold group_Group_suits
  repeat' (first | exact Le.refl _ | exact Le.none _ | exact slices_ContainsFunc_55.mono hK _ _ | exact group_Group_formed.mono hK _ | exact group_Group_member.mono hK _ _ | with_reducible apply Le.ite | with_reducible apply Le.bind | with_reducible apply Le.obind | intro _ | split)
theorem ballot_candidate.mono {K K' : Nat} (hK : K ≤ K') (p0 : Int) : Le (ballot_candidate K p0) (ballot_candidate K' p0) := by
  unfold ballot_candidate
  repeat' (first | exact Le.refl _ | exact Le.none _ | with_reducible apply Le.ite | with_reducible apply Le.bind | with_reducible apply Le.obind | intro _ | split)
theorem ballot_replica.l9.mono {K K' : Nat} (hK : K ≤ K') (p0 : api_Replica) : ∀ (k k' : Nat), k ≤ k' → ∀ y0 y1, Le (ballot_replica.l9 K p0 k y0 y1) (ballot_replica.l9 K' p0 k' y0 y1) := by
  intro k
  induction k with
  | zero => intros; exact Le.none _
  | succ k ih =>
    intro k' hk y0 y1
    cases k' with
    | zero => omega
    | succ k' =>
      unfold ballot_replica.l9
      repeat' (first | exact ih _ (by omega) _ _ | exact Le.refl _ | exact Le.none _ | exact bytes_Clone_59.mono hK _ | with_reducible apply Le.ite | with_reducible apply Le.bind | with_reducible apply Le.obind | intro _ | split)
theorem ballot_replica.mono {K K' : Nat} (hK : K ≤ K') (p0 : api_Replica) : Le (ballot_replica K p0) (ballot_replica K' p0) := by
  unfold ballot_replica
  repeat' (first | exact Le.refl _ | exact Le.none _ | exact ballot_replica.l9.mono hK _ _ _ hK _ _ | with_reducible apply Le.ite | with_reducible apply Le.bind | with_reducible apply Le.obind | intro _ | split)
theorem ballot_Stand.mono {K K' : Nat} (hK : K ≤ K') (p0 : api_Replica) (p1 : Int) : Le (ballot_Stand K p0 p1) (ballot_Stand K' p0 p1) := by
  unfold ballot_Stand
  repeat' (first | exact Le.refl _ | exact Le.none _ | exact replog_Right.mono hK _ | exact ballot_replica.mono hK _ | exact ballot_candidate.mono hK _ | with_reducible apply Le.ite | with_reducible apply Le.bind | with_reducible apply Le.obind | intro _ | split)
theorem group_copied.l9.mono {K K' : Nat} (hK : K ≤ K') (p0 : api_Replica) : ∀ (k k' : Nat), k ≤ k' → ∀ y0 y1, Le (group_copied.l9 K p0 k y0 y1) (group_copied.l9 K' p0 k' y0 y1) := by
  intro k
  induction k with
  | zero => intros; exact Le.none _
  | succ k ih =>
    intro k' hk y0 y1
    cases k' with
    | zero => omega
    | succ k' =>
      unfold group_copied.l9
      repeat' (first | exact ih _ (by omega) _ _ | exact Le.refl _ | exact Le.none _ | exact bytes_Clone_59.mono hK _ | with_reducible apply Le.ite | with_reducible apply Le.bind | with_reducible apply Le.obind | intro _ | split)
theorem group_copied.mono {K K' : Nat} (hK : K ≤ K') (p0 : api_Replica) : Le (group_copied K p0) (group_copied K' p0) := by
  unfold group_copied
  repeat' (first | exact Le.refl _ | exact Le.none _ | exact group_copied.l9.mono hK _ _ _ hK _ _ | with_reducible apply Le.ite | with_reducible apply Le.bind | with_reducible apply Le.obind | intro _ | split)
theorem group_Group_clone_v2.l9.mono {K K' : Nat} (hK : K ≤ K') (p0 : group_Group) : ∀ (k k' : Nat), k ≤ k' → ∀ y0 y1, Le (group_Group_clone_v2.l9 K p0 k y0 y1) (group_Group_clone_v2.l9 K' p0 k' y0 y1) := by
  intro k
  induction k with
  | zero => intros; exact Le.none _
  | succ k ih =>
    intro k' hk y0 y1
    cases k' with
    | zero => omega
    | succ k' =>
      unfold group_Group_clone_v2.l9
      repeat' (first | exact ih _ (by omega) _ _ | exact Le.refl _ | exact Le.none _ | exact group_copied.mono hK _ | with_reducible apply Le.ite | with_reducible apply Le.bind | with_reducible apply Le.obind | intro _ | split)
theorem group_Group_clone_v2.mono {K K' : Nat} (hK : K ≤ K') (p0 : group_Group) : Le (group_Group_clone_v2 K p0) (group_Group_clone_v2 K' p0) := by
  unfold group_Group_clone_v2
  repeat' (first | exact Le.refl _ | exact Le.none _ | exact group_Group_clone_v2.l9.mono hK _ _ _ hK _ _ | exact slices_Clone_61.mono hK _ | with_reducible apply Le.ite | with_reducible apply Le.bind | with_reducible apply Le.obind | intro _ | split)
theorem replog_Last.mono {K K' : Nat} (hK : K ≤ K') (p0 : api_Replica) : Le (replog_Last K p0) (replog_Last K' p0) := by
  unfold replog_Last
  repeat' (first | exact Le.refl _ | exact Le.none _ | with_reducible apply Le.ite | with_reducible apply Le.bind | with_reducible apply Le.obind | intro _ | split)
theorem slices_Index_93.l7.mono {K K' : Nat} (hK : K ≤ K') (p0 : List Int) (p1 : Int) : ∀ (k k' : Nat), k ≤ k' → ∀ y0, Le (slices_Index_93.l7 K p0 p1 k y0) (slices_Index_93.l7 K' p0 p1 k' y0) := by
  intro k
  induction k with
  | zero => intros; exact Le.none _
  | succ k ih =>
    intro k' hk y0
    cases k' with
    | zero => omega
    | succ k' =>
      unfold slices_Index_93.l7
      repeat' (first | exact ih _ (by omega) _ | exact Le.refl _ | exact Le.none _ | with_reducible apply Le.ite | with_reducible apply Le.bind | with_reducible apply Le.obind | intro _ | split)
theorem slices_Index_93.mono {K K' : Nat} (hK : K ≤ K') (p0 : List Int) (p1 : Int) : Le (slices_Index_93 K p0 p1) (slices_Index_93 K' p0 p1) := by
  unfold slices_Index_93
  repeat' (first | exact Le.refl _ | exact Le.none _ | exact slices_Index_93.l7.mono hK _ _ _ _ hK _ | with_reducible apply Le.ite | with_reducible apply Le.bind | with_reducible apply Le.obind | intro _ | split)
theorem slices_Contains_72.mono {K K' : Nat} (hK : K ≤ K') (p0 : List Int) (p1 : Int) : Le (slices_Contains_72 K p0 p1) (slices_Contains_72 K' p0 p1) := by
  unfold slices_Contains_72
  repeat' (first | exact Le.refl _ | exact Le.none _ | exact slices_Index_93.mono hK _ _ | with_reducible apply Le.ite | with_reducible apply Le.bind | with_reducible apply Le.obind | intro _ | split)
theorem group_Group_others.l9.mono {K K' : Nat} (hK : K ≤ K') (p0 : group_Group) (p1 : Int) (p2 : List Int) : ∀ (k k' : Nat), k ≤ k' → ∀ y0 y1, Le (group_Group_others.l9 K p0 p1 p2 k y0 y1) (group_Group_others.l9 K' p0 p1 p2 k' y0 y1) := by
  intro k
  induction k with
  | zero => intros; exact Le.none _
  | succ k ih =>
    intro k' hk y0 y1
    cases k' with
    | zero => omega
    | succ k' =>
      unfold group_Group_others.l9
      repeat' (first | exact ih _ (by omega) _ _ | exact Le.refl _ | exact Le.none _ | exact slices_Contains_72.mono hK _ _ | with_reducible apply Le.ite | with_reducible apply Le.bind | with_reducible apply Le.obind | intro _ | split)
theorem group_Group_others.mono {K K' : Nat} (hK : K ≤ K') (p0 : group_Group) (p1 : Int) (p2 : List Int) : Le (group_Group_others K p0 p1 p2) (group_Group_others K' p0 p1 p2) := by
  unfold group_Group_others
  repeat' (first | exact Le.refl _ | exact Le.none _ | exact group_Group_others.l9.mono hK _ _ _ _ _ hK _ _ | with_reducible apply Le.ite | with_reducible apply Le.bind | with_reducible apply Le.obind | intro _ | split)
theorem group_Group_others_v2.l9.mono {K K' : Nat} (hK : K ≤ K') (p0 : group_Group) (p1 : Int) (p2 : List Int) : ∀ (k k' : Nat), k ≤ k' → ∀ y0 y1, Le (group_Group_others_v2.l9 K p0 p1 p2 k y0 y1) (group_Group_others_v2.l9 K' p0 p1 p2 k' y0 y1) := by
  intro k
  induction k with
  | zero => intros; exact Le.none _
  | succ k ih =>
    intro k' hk y0 y1
    cases k' with
    | zero => omega
    | succ k' =>
      unfold group_Group_others_v2.l9
      repeat' (first | exact ih _ (by omega) _ _ | exact Le.refl _ | exact Le.none _ | exact slices_Contains_72.mono hK _ _ | with_reducible apply Le.ite | with_reducible apply Le.bind | with_reducible apply Le.obind | intro _ | split)
theorem group_Group_others_v2.mono {K K' : Nat} (hK : K ≤ K') (p0 : group_Group) (p1 : Int) (p2 : List Int) : Le (group_Group_others_v2 K p0 p1 p2) (group_Group_others_v2 K' p0 p1 p2) := by
  unfold group_Group_others_v2
  repeat' (first | exact Le.refl _ | exact Le.none _ | exact group_Group_others_v2.l9.mono hK _ _ _ _ _ hK _ _ | with_reducible apply Le.ite | with_reducible apply Le.bind | with_reducible apply Le.obind | intro _ | split)
theorem ballot_Observe.mono {K K' : Nat} (hK : K ≤ K') (p0 : api_Replica) (p1 : Int) : Le (ballot_Observe K p0 p1) (ballot_Observe K' p0 p1) := by
  unfold ballot_Observe
  repeat' (first | exact Le.refl _ | exact Le.none _ | exact ballot_replica.mono hK _ | with_reducible apply Le.ite | with_reducible apply Le.bind | with_reducible apply Le.obind | intro _ | split)
theorem ballot_Newer.mono {K K' : Nat} (hK : K ≤ K') (p0 : Int) (p1 : Int) (p2 : Int) (p3 : Int) : Le (ballot_Newer K p0 p1 p2 p3) (ballot_Newer K' p0 p1 p2 p3) := by
  unfold ballot_Newer
  repeat' (first | exact Le.refl _ | exact Le.none _ | with_reducible apply Le.ite | with_reducible apply Le.bind | with_reducible apply Le.obind | intro _ | split)
theorem ballot_Ask.mono {K K' : Nat} (hK : K ≤ K') (p0 : api_Replica) (p1 : Int) (p2 : Int) (p3 : Int) (p4 : Int) : Le (ballot_Ask K p0 p1 p2 p3 p4) (ballot_Ask K' p0 p1 p2 p3 p4) := by
  unfold ballot_Ask
  repeat' (first | exact Le.refl _ | exact Le.none _ | exact ballot_candidate.mono hK _ | exact ballot_Newer.mono hK _ _ _ _ | exact ballot_Observe.mono hK _ _ | exact replog_Last.mono hK _ | exact replog_Right.mono hK _ | with_reducible apply Le.ite | with_reducible apply Le.bind | with_reducible apply Le.obind | intro _ | split)
theorem quorum_Majority.mono {K K' : Nat} (hK : K ≤ K') (p0 : Int) : Le (quorum_Majority K p0) (quorum_Majority K' p0) := by
  unfold quorum_Majority
  repeat' (first | exact Le.refl _ | exact Le.none _ | with_reducible apply Le.ite | with_reducible apply Le.bind | with_reducible apply Le.obind | intro _ | split)
theorem quorum_Won.mono {K K' : Nat} (hK : K ≤ K') (p0 : Int) (p1 : Int) : Le (quorum_Won K p0 p1) (quorum_Won K' p0 p1) := by
  unfold quorum_Won
  repeat' (first | exact Le.refl _ | exact Le.none _ | exact quorum_Majority.mono hK _ | with_reducible apply Le.ite | with_reducible apply Le.bind | with_reducible apply Le.obind | intro _ | split)
theorem group_Elect.l41.mono {K K' : Nat} (hK : K ≤ K') (p1 : Int) (a2_0 : api_Replica) (a4_0 : Int) (a4_1 : Int) (a5 : List Int) : ∀ (k k' : Nat), k ≤ k' → ∀ y0 y1 y2, Le (group_Elect.l41 K p1 a2_0 a4_0 a4_1 a5 k y0 y1 y2) (group_Elect.l41 K' p1 a2_0 a4_0 a4_1 a5 k' y0 y1 y2) := by
  intro k
  induction k with
  | zero => intros; exact Le.none _
  | succ k ih =>
    intro k' hk y0 y1 y2
    cases k' with
    | zero => omega
    | succ k' =>
      unfold group_Elect.l41
      repeat' (first | exact ih _ (by omega) _ _ _ | exact Le.refl _ | exact Le.none _ | exact ballot_Ask.mono hK _ _ _ _ _ | with_reducible apply Le.ite | with_reducible apply Le.bind | with_reducible apply Le.obind | intro _ | split)
theorem group_Elect.mono {K K' : Nat} (hK : K ≤ K') (p0 : group_Group) (p1 : Int) (p2 : List Int) : Le (group_Elect K p0 p1 p2) (group_Elect K' p0 p1 p2) := by
  unfold group_Elect
  repeat' (first | exact Le.refl _ | exact Le.none _ | exact group_Group_clone_v2.mono hK _ | exact ballot_Stand.mono hK _ _ | exact quorum_Won.mono hK _ _ | exact group_Group_others_v2.mono hK _ _ _ | exact group_Group_suits.mono hK _ _ _ | exact replog_Last.mono hK _ | exact group_Elect.l41.mono hK _ _ _ _ _ _ _ hK _ _ _ | with_reducible apply Le.ite | with_reducible apply Le.bind | with_reducible apply Le.obind | intro _ | split)
theorem group_Group_leads_c1.mono {K K' : Nat} (hK : K ≤ K') (p0 : Int) (p1 : group_Group) (p2 : Int) : Le (group_Group_leads_c1 K p0 p1 p2) (group_Group_leads_c1 K' p0 p1 p2) := by
  unfold group_Group_leads_c1
  repeat' (first | exact Le.refl _ | exact Le.none _ | with_reducible apply Le.ite | with_reducible apply Le.bind | with_reducible apply Le.obind | intro _ | split)
theorem slices_IndexFunc_84_v2.l7.mono {K K' : Nat} (hK : K ≤ K') (p0 : List Int) (p1 : group_Group) (p2 : Int) : ∀ (k k' : Nat), k ≤ k' → ∀ y0, Le (slices_IndexFunc_84_v2.l7 K p0 p1 p2 k y0) (slices_IndexFunc_84_v2.l7 K' p0 p1 p2 k' y0) := by
  intro k
  induction k with
  | zero => intros; exact Le.none _
  | succ k ih =>
    intro k' hk y0
    cases k' with
    | zero => omega
    | succ k' =>
      unfold slices_IndexFunc_84_v2.l7
      repeat' (first | exact ih _ (by omega) _ | exact Le.refl _ | exact Le.none _ | exact group_Group_leads_c1.mono hK _ _ _ | with_reducible apply Le.ite | with_reducible apply Le.bind | with_reducible apply Le.obind | intro _ | split)
theorem slices_IndexFunc_84_v2.mono {K K' : Nat} (hK : K ≤ K') (p0 : List Int) (p1 : group_Group) (p2 : Int) : Le (slices_IndexFunc_84_v2 K p0 p1 p2) (slices_IndexFunc_84_v2 K' p0 p1 p2) := by
  unfold slices_IndexFunc_84_v2
  repeat' (first | exact Le.refl _ | exact Le.none _ | exact slices_IndexFunc_84_v2.l7.mono hK _ _ _ _ _ hK _ | with_reducible apply Le.ite | with_reducible apply Le.bind | with_reducible apply Le.obind | intro _ | split)
theorem slices_ContainsFunc_55_v2.mono {K K' : Nat} (hK : K ≤ K') (p0 : List Int) (p1 : group_Group) (p2 : Int) : Le (slices_ContainsFunc_55_v2 K p0 p1 p2) (slices_ContainsFunc_55_v2 K' p0 p1 p2) := by
  unfold slices_ContainsFunc_55_v2
  repeat' (first | exact Le.refl _ | exact Le.none _ | exact slices_IndexFunc_84_v2.mono hK _ _ _ | with_reducible apply Le.ite | with_reducible apply Le.bind | with_reducible apply Le.obind | intro _ | split)
theorem group_Group_leads.mono {K K' : Nat} (hK : K ≤ K') (p0 : group_Group) (p1 : Int) (p2 : Int) (p3 : List Int) : Le (group_Group_leads K p0 p1 p2 p3) (group_Group_leads K' p0 p1 p2 p3) := by
  unfold group_Group_leads
  repeat' (first | exact Le.refl _ | exact Le.none _ | exact slices_ContainsFunc_55_v2.mono hK _ _ _ | exact group_Group_others.mono hK _ _ _ | exact group_Group_suits.mono hK _ _ _ | with_reducible apply Le.ite | with_reducible apply Le.bind | with_reducible apply Le.obind | intro _ | split)
theorem replog_entries.l9.mono {K K' : Nat} (hK : K ≤ K') (p0 : List api_Entry) : ∀ (k k' : Nat), k ≤ k' → ∀ y0 y1, Le (replog_entries.l9 K p0 k y0 y1) (replog_entries.l9 K' p0 k' y0 y1) := by
  intro k
  induction k with
  | zero => intros; exact Le.none _
  | succ k ih =>
    intro k' hk y0 y1
    cases k' with
    | zero => omega
    | succ k' =>
      unfold replog_entries.l9
      repeat' (first | exact ih _ (by omega) _ _ | exact Le.refl _ | exact Le.none _ | exact bytes_Clone_59.mono hK _ | with_reducible apply Le.ite | with_reducible apply Le.bind | with_reducible apply Le.obind | intro _ | split)
theorem replog_entries.mono {K K' : Nat} (hK : K ≤ K') (p0 : List api_Entry) : Le (replog_entries K p0) (replog_entries K' p0) := by
  unfold replog_entries
  repeat' (first | exact Le.refl _ | exact Le.none _ | exact replog_entries.l9.mono hK _ _ _ hK _ _ | with_reducible apply Le.ite | with_reducible apply Le.bind | with_reducible apply Le.obind | intro _ | split)
theorem replog_entries_v2.l9.mono {K K' : Nat} (hK : K ≤ K') (p0 : List api_Entry) : ∀ (k k' : Nat), k ≤ k' → ∀ y0 y1, Le (replog_entries_v2.l9 K p0 k y0 y1) (replog_entries_v2.l9 K' p0 k' y0 y1) := by
  intro k
  induction k with
  | zero => intros; exact Le.none _
  | succ k ih =>
    intro k' hk y0 y1
    cases k' with
    | zero => omega
    | succ k' =>
      unfold replog_entries_v2.l9
      repeat' (first | exact ih _ (by omega) _ _ | exact Le.refl _ | exact Le.none _ | exact bytes_Clone_59.mono hK _ | with_reducible apply Le.ite | with_reducible apply Le.bind | with_reducible apply Le.obind | intro _ | split)
theorem replog_entries_v2.mono {K K' : Nat} (hK : K ≤ K') (p0 : List api_Entry) : Le (replog_entries_v2 K p0) (replog_entries_v2 K' p0) := by
  unfold replog_entries_v2
  repeat' (first | exact Le.refl _ | exact Le.none _ | exact replog_entries_v2.l9.mono hK _ _ _ hK _ _ | with_reducible apply Le.ite | with_reducible apply Le.bind | with_reducible apply Le.obind | intro _ | split)
theorem replog_Lead.mono {K K' : Nat} (hK : K ≤ K') (p0 : api_Replica) (p1 : Int) (p2 : List UInt8) : Le (replog_Lead K p0 p1 p2) (replog_Lead K' p0 p1 p2) := by
  unfold replog_Lead
  repeat' (first | exact Le.refl _ | exact Le.none _ | exact replog_Right.mono hK _ | exact replog_entries_v2.mono hK _ | exact bytes_Clone_59.mono hK _ | with_reducible apply Le.ite | with_reducible apply Le.bind | with_reducible apply Le.obind | intro _ | split)
theorem bytes_Equal.mono {K K' : Nat} (hK : K ≤ K') (p0 : List UInt8) (p1 : List UInt8) : Le (bytes_Equal K p0 p1) (bytes_Equal K' p0 p1) := by
  unfold bytes_Equal
  repeat' (first | exact Le.refl _ | exact Le.none _ | with_reducible apply Le.ite | with_reducible apply Le.bind | with_reducible apply Le.obind | intro _ | split)
theorem replog_agree.mono {K K' : Nat} (hK : K ≤ K') (p0 : api_Entry) (p1 : api_Entry) : Le (replog_agree K p0 p1) (replog_agree K' p0 p1) := by
  unfold replog_agree
  repeat' (first | exact Le.refl _ | exact Le.none _ | exact bytes_Equal.mono hK _ _ | with_reducible apply Le.ite | with_reducible apply Le.bind | with_reducible apply Le.obind | intro _ | split)
theorem replog_Common.l7.mono {K K' : Nat} (hK : K ≤ K') (p0 : api_Replica) (p1 : api_Replica) : ∀ (k k' : Nat), k ≤ k' → ∀ y0, Le (replog_Common.l7 K p0 p1 k y0) (replog_Common.l7 K' p0 p1 k' y0) := by
  intro k
  induction k with
  | zero => intros; exact Le.none _
  | succ k ih =>
    intro k' hk y0
    cases k' with
    | zero => omega
    | succ k' =>
      unfold replog_Common.l7
      repeat' (first | exact ih _ (by omega) _ | exact Le.refl _ | exact Le.none _ | exact replog_agree.mono hK _ _ | with_reducible apply Le.ite | with_reducible apply Le.bind | with_reducible apply Le.obind | intro _ | split)
theorem replog_Common.mono {K K' : Nat} (hK : K ≤ K') (p0 : api_Replica) (p1 : api_Replica) : Le (replog_Common K p0 p1) (replog_Common K' p0 p1) := by
  unfold replog_Common
  repeat' (first | exact Le.refl _ | exact Le.none _ | exact replog_Common.l7.mono hK _ _ _ _ hK _ | with_reducible apply Le.ite | with_reducible apply Le.bind | with_reducible apply Le.obind | intro _ | split)
theorem replog_suits.mono {K K' : Nat} (hK : K ≤ K') (p0 : api_Replica) (p1 : Int) (p2 : Int) (p3 : Int) (p4 : List api_Entry) (p5 : Int) : Le (replog_suits K p0 p1 p2 p3 p4 p5) (replog_suits K' p0 p1 p2 p3 p4 p5) := by
  unfold replog_suits
  repeat' (first | exact Le.refl _ | exact Le.none _ | exact replog_Right.mono hK _ | exact replog_in.mono hK _ _ _ | exact replog_rising.mono hK _ _ _ | with_reducible apply Le.ite | with_reducible apply Le.bind | with_reducible apply Le.obind | intro _ | split)
theorem replog_Accept.l28.mono {K K' : Nat} (hK : K ≤ K') (p0 : api_Replica) (p2 : Int) (p4 : List api_Entry) : ∀ (k k' : Nat), k ≤ k' → ∀ y0, Le (replog_Accept.l28 K p0 p2 p4 k y0) (replog_Accept.l28 K' p0 p2 p4 k' y0) := by
  intro k
  induction k with
  | zero => intros; exact Le.none _
  | succ k ih =>
    intro k' hk y0
    cases k' with
    | zero => omega
    | succ k' =>
      unfold replog_Accept.l28
      repeat' (first | exact ih _ (by omega) _ | exact Le.refl _ | exact Le.none _ | exact replog_agree.mono hK _ _ | with_reducible apply Le.ite | with_reducible apply Le.bind | with_reducible apply Le.obind | intro _ | split)
theorem replog_Accept.mono {K K' : Nat} (hK : K ≤ K') (p0 : api_Replica) (p1 : Int) (p2 : Int) (p3 : Int) (p4 : List api_Entry) (p5 : Int) : Le (replog_Accept K p0 p1 p2 p3 p4 p5) (replog_Accept K' p0 p1 p2 p3 p4 p5) := by
  unfold replog_Accept
  repeat' (first | exact Le.refl _ | exact Le.none _ | exact replog_entries.mono hK _ | exact replog_Accept.l28.mono hK _ _ _ _ _ hK _ | exact replog_entries_v2.mono hK _ | exact replog_suits.mono hK _ _ _ _ _ _ | with_reducible apply Le.ite | with_reducible apply Le.bind | with_reducible apply Le.obind | intro _ | split)
theorem group_Group_accept_v2.mono {K K' : Nat} (hK : K ≤ K') (p0 : List Bool) (p1 : Int) (p2 : Int) (p3 : Int) (p4 : api_Replica) (p5 : Int) (p6 : List api_Entry) (p7 : List api_Replica) : Le (group_Group_accept_v2 K p0 p1 p2 p3 p4 p5 p6 p7) (group_Group_accept_v2 K' p0 p1 p2 p3 p4 p5 p6 p7) := by
  unfold group_Group_accept_v2
  repeat' (first | exact Le.refl _ | exact Le.none _ | exact replog_Accept.mono hK _ _ _ _ _ _ | with_reducible apply Le.ite | with_reducible apply Le.bind | with_reducible apply Le.obind | intro _ | split)
theorem quorum_Index.mono {K K' : Nat} (hK : K ≤ K') (p0 : List Int) : Le (quorum_Index K p0) (quorum_Index K' p0) := by
  unfold quorum_Index
  repeat' (first | exact Le.refl _ | exact Le.none _ | exact quorum_Majority.mono hK _ | with_reducible apply Le.ite | with_reducible apply Le.bind | with_reducible apply Le.obind | intro _ | split)
theorem quorum_Commit.l7.mono {K K' : Nat} (hK : K ≤ K') (p0 : api_Replica) : ∀ (k k' : Nat), k ≤ k' → ∀ y0, Le (quorum_Commit.l7 K p0 k y0) (quorum_Commit.l7 K' p0 k' y0) := by
  intro k
  induction k with
  | zero => intros; exact Le.none _
  | succ k ih =>
    intro k' hk y0
    cases k' with
    | zero => omega
    | succ k' =>
      unfold quorum_Commit.l7
      repeat' (first | exact ih _ (by omega) _ | exact Le.refl _ | exact Le.none _ | with_reducible apply Le.ite | with_reducible apply Le.bind | with_reducible apply Le.obind | intro _ | split)
theorem quorum_Commit.mono {K K' : Nat} (hK : K ≤ K') (p0 : api_Replica) (p1 : List Int) : Le (quorum_Commit K p0 p1) (quorum_Commit K' p0 p1) := by
  unfold quorum_Commit
  repeat' (first | exact Le.refl _ | exact Le.none _ | exact quorum_Index.mono hK _ | exact quorum_Commit.l7.mono hK _ _ _ hK _ | with_reducible apply Le.ite | with_reducible apply Le.bind | with_reducible apply Le.obind | intro _ | split)
theorem group_Group_replicate_v2.l15.mono {K K' : Nat} (hK : K ≤ K') (p0 : List Bool) (p1 : Int) (p2 : Int) (p3 : Int) (p5 : List api_Replica) (a1 : List Int) : ∀ (k k' : Nat), k ≤ k' → ∀ y0 y1 y2 y3, Le (group_Group_replicate_v2.l15 K p0 p1 p2 p3 p5 a1 k y0 y1 y2 y3) (group_Group_replicate_v2.l15 K' p0 p1 p2 p3 p5 a1 k' y0 y1 y2 y3) := by
  intro k
  induction k with
  | zero => intros; exact Le.none _
  | succ k ih =>
    intro k' hk y0 y1 y2 y3
    cases k' with
    | zero => omega
    | succ k' =>
      unfold group_Group_replicate_v2.l15
      repeat' (first | exact ih _ (by omega) _ _ _ _ | exact Le.refl _ | exact Le.none _ | exact replog_Common.mono hK _ _ | exact group_Group_accept_v2.mono hK _ _ _ _ _ _ _ _ | with_reducible apply Le.ite | with_reducible apply Le.bind | with_reducible apply Le.obind | intro _ | split)
theorem group_Group_replicate_v2.l51.mono {K K' : Nat} (hK : K ≤ K') (p0 : List Bool) (p1 : Int) (p2 : Int) (p3 : Int) (p5 : List api_Replica) (x23003 : List Int) (a4 : Int) : ∀ (k k' : Nat), k ≤ k' → ∀ y0 y1, Le (group_Group_replicate_v2.l51 K p0 p1 p2 p3 p5 x23003 a4 k y0 y1) (group_Group_replicate_v2.l51 K' p0 p1 p2 p3 p5 x23003 a4 k' y0 y1) := by
  intro k
  induction k with
  | zero => intros; exact Le.none _
  | succ k ih =>
    intro k' hk y0 y1
    cases k' with
    | zero => omega
    | succ k' =>
      unfold group_Group_replicate_v2.l51
      repeat' (first | exact ih _ (by omega) _ _ | exact Le.refl _ | exact Le.none _ | exact group_Group_accept_v2.mono hK _ _ _ _ _ _ _ _ | with_reducible apply Le.ite | with_reducible apply Le.bind | with_reducible apply Le.obind | intro _ | split)
theorem group_Group_replicate_v2.mono {K K' : Nat} (hK : K ≤ K') (p0 : List Bool) (p1 : Int) (p2 : Int) (p3 : Int) (p4 : List Int) (p5 : List api_Replica) : Le (group_Group_replicate_v2 K p0 p1 p2 p3 p4 p5) (group_Group_replicate_v2 K' p0 p1 p2 p3 p4 p5) := by
  unfold group_Group_replicate_v2
  repeat' (first | exact Le.refl _ | exact Le.none _ | exact group_Group_replicate_v2.l51.mono hK _ _ _ _ _ _ _ _ _ hK _ _ | exact group_Group_others_v2.mono hK _ _ _ | exact group_Group_replicate_v2.l15.mono hK _ _ _ _ _ _ _ _ hK _ _ _ _ | exact quorum_Commit.mono hK _ _ | with_reducible apply Le.ite | with_reducible apply Le.bind | with_reducible apply Le.obind | intro _ | split)
theorem group_Propose.mono {K K' : Nat} (hK : K ≤ K') (p0 : group_Group) (p1 : Int) (p2 : Int) (p3 : List UInt8) (p4 : List Int) : Le (group_Propose K p0 p1 p2 p3 p4) (group_Propose K' p0 p1 p2 p3 p4) := by
  unfold group_Propose
  repeat' (first | exact Le.refl _ | exact Le.none _ | exact replog_Lead.mono hK _ _ _ | exact group_Group_replicate_v2.mono hK _ _ _ _ _ _ | exact group_Group_leads.mono hK _ _ _ _ | exact group_Group_clone_v2.mono hK _ | with_reducible apply Le.ite | with_reducible apply Le.bind | with_reducible apply Le.obind | intro _ | split)
theorem group_New.l17.mono {K K' : Nat} (hK : K ≤ K') (p0 : Int) : ∀ (k k' : Nat), k ≤ k' → ∀ y0 y1 y2, Le (group_New.l17 K p0 k y0 y1 y2) (group_New.l17 K' p0 k' y0 y1 y2) := by
  intro k
  induction k with
  | zero => intros; exact Le.none _
  | succ k ih =>
    intro k' hk y0 y1 y2
    cases k' with
    | zero => omega
    | succ k' =>
      unfold group_New.l17
      repeat' (first | exact ih _ (by omega) _ _ _ | exact Le.refl _ | exact Le.none _ | with_reducible apply Le.ite | with_reducible apply Le.bind | with_reducible apply Le.obind | intro _ | split)
theorem group_New.mono {K K' : Nat} (hK : K ≤ K') (p0 : Int) : Le (group_New K p0) (group_New K' p0) := by
  unfold group_New
  repeat' (first | exact Le.refl _ | exact Le.none _ | exact group_New.l17.mono hK _ _ _ hK _ _ _ | with_reducible apply Le.ite | with_reducible apply Le.bind | with_reducible apply Le.obind | intro _ | split)
theorem replog_Committed.l9.mono {K K' : Nat} (hK : K ≤ K') (p0 : api_Replica) : ∀ (k k' : Nat), k ≤ k' → ∀ y0 y1, Le (replog_Committed.l9 K p0 k y0 y1) (replog_Committed.l9 K' p0 k' y0 y1) := by
  intro k
  induction k with
  | zero => intros; exact Le.none _
  | succ k ih =>
    intro k' hk y0 y1
    cases k' with
    | zero => omega
    | succ k' =>
      unfold replog_Committed.l9
      repeat' (first | exact ih _ (by omega) _ _ | exact Le.refl _ | exact Le.none _ | exact bytes_Clone_59.mono hK _ | with_reducible apply Le.ite | with_reducible apply Le.bind | with_reducible apply Le.obind | intro _ | split)
theorem replog_Committed.mono {K K' : Nat} (hK : K ≤ K') (p0 : api_Replica) : Le (replog_Committed K p0) (replog_Committed K' p0) := by
  unfold replog_Committed
  repeat' (first | exact Le.refl _ | exact Le.none _ | exact replog_Committed.l9.mono hK _ _ _ hK _ _ | with_reducible apply Le.ite | with_reducible apply Le.bind | with_reducible apply Le.obind | intro _ | split)
theorem group_Committed.l9.mono {K K' : Nat} (hK : K ≤ K') (p0 : group_Group) : ∀ (k k' : Nat), k ≤ k' → ∀ y0 y1, Le (group_Committed.l9 K p0 k y0 y1) (group_Committed.l9 K' p0 k' y0 y1) := by
  intro k
  induction k with
  | zero => intros; exact Le.none _
  | succ k ih =>
    intro k' hk y0 y1
    cases k' with
    | zero => omega
    | succ k' =>
      unfold group_Committed.l9
      repeat' (first | exact ih _ (by omega) _ _ | exact Le.refl _ | exact Le.none _ | with_reducible apply Le.ite | with_reducible apply Le.bind | with_reducible apply Le.obind | intro _ | split)
theorem group_Committed.mono {K K' : Nat} (hK : K ≤ K') (p0 : group_Group) : Le (group_Committed K p0) (group_Committed K' p0) := by
  unfold group_Committed
  repeat' (first | exact Le.refl _ | exact Le.none _ | exact replog_Committed.mono hK _ | exact group_Committed.l9.mono hK _ _ _ hK _ _ | with_reducible apply Le.ite | with_reducible apply Le.bind | with_reducible apply Le.obind | intro _ | split)
theorem workflowlaw55_works.mono {K K' : Nat} (hK : K ≤ K')  : Le (workflowlaw55_works K) (workflowlaw55_works K') := by
  unfold workflowlaw55_works
  repeat' (first | exact Le.refl _ | exact Le.none _ | exact group_New.mono hK _ | exact group_Propose.mono hK _ _ _ _ _ | exact group_Elect.mono hK _ _ _ | exact group_Committed.mono hK _ | with_reducible apply Le.ite | with_reducible apply Le.bind | with_reducible apply Le.obind | intro _ | split)
end Go.Proofs.YtmafcdkdcfaajaaGreat
