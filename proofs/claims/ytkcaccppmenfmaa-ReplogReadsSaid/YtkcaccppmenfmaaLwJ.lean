/- The law on what is read answers with true. -/
import Derived.Test.YtkcaccppmenfmaaLwI
set_option linter.unusedVariables false
set_option linter.unusedSimpArgs false
namespace Go.Proofs.Ytkcaccppmenfmaa
open Eng

abbrev w52 : api_Replica := ⟨2, -1, 0, [⟨1, []⟩, ⟨1, []⟩, ⟨2, []⟩]⟩

theorem works52_at (K : Nat) (hK : 70000 ≤ K) : workflowlaw52_works K = some true := by
  have e1 : acceptB w52 3 2 1 [(⟨3, []⟩ : api_Entry)] 0 = (⟨3, -1, 0, [⟨1, []⟩, ⟨1, []⟩, ⟨3, []⟩]⟩, 0) := by kernel_rfl
  have e2 : acceptB w52 1 0 0 [] 0 = (⟨0, 0, 0, []⟩, 25) := by kernel_rfl
  have e3 : acceptB w52 2 5 2 [] 0 = (⟨0, 0, 0, []⟩, 26) := by kernel_rfl
  have e4 : rightB w52 = true := by kernel_rfl
  unfold workflowlaw52_works
  rw [Accept_eq K w52 3 2 1 [(⟨3, []⟩ : api_Entry)] 0 hK (by simp), Accept_eq K w52 1 0 0 [] 0 hK (by simp), Accept_eq K w52 2 5 2 [] 0 hK (by simp), Right_eq K w52 (by omega), e1, e2, e3, e4]
  simp only [Option.bind_some, if_true]
  rw [Same_self K _ ⟨by simp, by simp⟩ (by omega)]
  rfl

theorem law_reads (K D : Nat) (a b : api_Replica) (ha : ∀ x ∈ a.Log, x.Data.length ≤ D) (hb : ∀ x ∈ b.Log, x.Data.length ≤ D) (hD : D ≤ 140737488355328) (hK : 100000 ≤ K) (hKD : D < K) : workflowlaw52_ReplogReads K a b = some true := by
  unfold workflowlaw52_ReplogReads
  rcases few_eq K [a.Log, b.Log] (by simp) (by omega) with ⟨h, hl⟩ | ⟨h, hl⟩
  · rw [hl]
    have la : a.Log.length ≤ 200 := h a.Log (by simp)
    have lb : b.Log.length ≤ 200 := h b.Log (by simp)
    have hha : Held a D := ⟨la, ha⟩
    have hhb : Held b D := ⟨lb, hb⟩
    simp only [Option.bind_some, if_true]
    rw [Last_eq K a (by omega), rLast_eq K a (by omega)]
    simp only [Option.bind_some, if_true]
    rw [Common_eq K a b la lb (by omega), rCommonH_eq K D a b hha hhb hKD (by omega) hD]
    simp only [Option.bind_some, if_true]
    rw [Committed_eq K a la (fun x hx => Nat.le_trans (ha x hx) hD) (by omega), rCommitted_eq K a la (by omega)]
    simp only [Option.bind_some]
    rw [SameData_eq K D _ (by rw [List.length_map, List.length_take]; omega) (fun x hx => by
      obtain ⟨y, hy, rfl⟩ := List.mem_map.1 hx
      exact ha y (List.mem_of_mem_take hy)) hKD (by omega) hD]
    simp only [Option.bind_some, if_true]
    rw [Right_eq K a (by omega), rRight_eq K a (by omega)]
    simp only [Option.bind_some]
    rw [if_pos (by simp), SameP_eq K a b la (by omega), rSame_eq K D a b hha hhb hKD (by omega) hD]
    simp only [Option.bind_some]
    rw [if_pos (by simp), works52_at K (by omega)]
    rfl
  · rw [hl]
    simp only [Option.bind_some, Bool.false_eq_true, if_false]
    rw [works52_at K (by omega)]
    rfl

/-- The greatest length of the data of entries. -/
def most (l : List api_Entry) : Nat := l.foldr (fun x m => max x.Data.length m) 0
theorem most_ge : ∀ (l : List api_Entry) (x : api_Entry), x ∈ l → x.Data.length ≤ most l
  | [], x, h => by cases h
  | y :: l, x, h => by
    unfold most
    rw [List.foldr_cons]
    rcases List.mem_cons.1 h with rfl | h
    · omega
    · have := most_ge l x h; unfold most at this; omega

end Go.Proofs.Ytkcaccppmenfmaa
