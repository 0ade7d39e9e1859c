/- The law on appends answers with true. -/
import Derived.Test.YtkcaccppmenfmaaLwE
set_option linter.unusedVariables false
set_option linter.unusedSimpArgs false
namespace Go.Proofs.Ytkcaccppmenfmaa
open Eng

theorem logB_len {l es : List api_Entry} {q : Nat} (hq : q ≤ l.length) (hl : l.length ≤ 5000) (he : q + es.length ≤ 5000) : (logB l es q).length ≤ 5000 := by
  unfold logB
  have h1 := common_le es (l.drop q)
  rw [List.length_drop] at h1
  split
  · rw [List.length_append, List.length_take]; omega
  · rw [List.length_append, List.length_drop]; omega

theorem logB_mem {l es : List api_Entry} {q : Nat} {x : api_Entry} (h : x ∈ logB l es q) : x ∈ l ∨ x ∈ es := by
  unfold logB at h
  split at h
  · rcases List.mem_append.1 h with h | h
    · exact .inl (List.mem_of_mem_take h)
    · exact .inr h
  · rcases List.mem_append.1 h with h | h
    · exact .inl h
    · exact .inr (List.mem_of_mem_drop h)

theorem acceptB_fit {r : api_Replica} {e p pe : Int} {es : List api_Entry} {cm : Int} : Fit (acceptB r e p pe es cm).1 := by
  have hz : Fit (⟨0, 0, 0, []⟩ : api_Replica) := ⟨by simp, by simp⟩
  unfold acceptB
  split
  · rename_i h
    obtain ⟨hr, he, hp, hpe, hpp, hcm, hri⟩ := suitsB_iff.1 h
    have hf := rightB_fit hr
    have hes := risingB_data hri
    split
    · exact hz
    · split
      · exact hz
      · split
        · exact hz
        · split
          · exact hz
          · split
            · exact hz
            · refine ⟨logB_len (by omega) hf.1 (by omega), fun x hx => ?_⟩
              rcases logB_mem hx with hx | hx
              · exact hf.2 x hx
              · exact hes x hx
  · exact hz

theorem law_ReplogAccepts (r : api_Replica) (a : workflowlaw52_Append) : workflowlaw52_ReplogAccepts 100000 r a = some true := by
  unfold workflowlaw52_ReplogAccepts
  rcases few_eq 100000 [r.Log, a.Entries] (by simp) (by omega) with ⟨h, hl⟩ | ⟨h, hl⟩
  · rw [hl]
    simp only [Option.bind_some, if_true]
    have h2 : a.Entries.length ≤ 200 := h a.Entries (by simp)
    rw [Accept_eq _ _ _ _ _ _ _ (by omega) (by omega), rAccept_eq _ _ _ _ _ _ _ (by omega) (by omega)]
    simp only [Option.bind_some, if_true]
    rw [Same_self _ _ acceptB_fit (by omega)]
    simp only [Option.bind_some, if_true]
    rw [works52]
    rfl
  · rw [hl]
    simp only [Option.bind_some, Bool.false_eq_true, if_false]
    rw [works52]
    rfl

end Go.Proofs.Ytkcaccppmenfmaa
