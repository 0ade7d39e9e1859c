/- More of the functions of the ballot and of the log as plain functions; the laws on them answer with true. -/
import Derived.Test.YtkcaccppmenfmaaLwA
set_option linter.unusedVariables false
set_option linter.unusedSimpArgs false
namespace Go.Proofs.Ytkcaccppmenfmaa
open Eng

theorem askB_no {r : api_Replica} {e c li le : Int} (h : ¬ (le > lastE r ∨ (le = lastE r ∧ li ≥ r.Log.length))) : (askB r e c li le).2.1 = false := by
  unfold askB
  split
  · split
    · rfl
    · rw [if_neg (fun h2 => h h2.2)]
  · rfl

theorem law_BallotUpToDate (r : api_Replica) (e c d : Int) (hd : 0 ≤ d ∧ d ≤ 255) : workflowlaw54_BallotUpToDate 100000 r e c d = some true := by
  unfold workflowlaw54_BallotUpToDate
  rcases large_eq 100000 r (by omega) with ⟨h, hl⟩ | ⟨h, hl⟩
  · rw [hl]
    simp only [Option.bind_some]
    rw [if_neg (by simp), rRight_eq _ _ (by omega)]
    simp only [Option.bind_some]
    by_cases h0 : rightB r = true
    · rw [if_pos h0]
      simp only [Option.bind_some]
      by_cases h1 : r.Log.length = 0
      · rw [if_pos (by simpa using h1), works54]; rfl
      · have hlen := h.1
        rw [if_neg (by simpa using h1), rLast_eq _ _ (by omega)]
        simp only [Option.bind_some]
        rw [Ask_eq _ _ _ _ _ _ (by omega), Ask_eq _ _ _ _ _ _ (by omega)]
        simp only [Option.bind_some]
        have w1 : IntKind.i64.wrap d = d := wrap_small (by omega) (by omega)
        have w2 : IntKind.i64.wrap ((r.Log.length : Int) - 1) = (r.Log.length : Int) - 1 := wrap_small (by omega) (by omega)
        have w3 : IntKind.i64.wrap ((r.Log.length : Int) - 1 - d) = (r.Log.length : Int) - 1 - d := wrap_small (by omega) (by omega)
        have hle : 1 ≤ lastE r := by
          unfold rightB at h0
          simp only [Bool.and_eq_true, decide_eq_true_eq] at h0
          exact okL_last h0.2.2.2.2 (by omega)
        have hle2 : lastE r ≤ 1099511627776 := by
          unfold rightB at h0
          simp only [Bool.and_eq_true, decide_eq_true_eq] at h0
          have := okL_last2 h0.2.2.2.2 (by omega)
          omega
        have w4 : IntKind.i64.wrap (lastE r - 1) = lastE r - 1 := wrap_small (by omega) (by omega)
        rw [w1, w2, w3, w4]
        rw [if_neg (by
          rw [askB_no]
          · simp
          · intro hh
            rcases hh with hh | ⟨_, hh⟩
            · omega
            · split at hh <;> omega), if_neg (by
          rw [askB_no]
          · simp
          · omega), works54]
        rfl
    · rw [if_neg h0]
      simp only [Option.bind_some, if_true]
      rw [works54]; rfl
  · rw [hl]
    simp only [Option.bind_some, if_true]
    rw [works54]
    rfl
where
  okL_last {r : api_Replica} {top : Int} (h : okL r.Log 1 top = true) (hn : r.Log.length ≠ 0) : 1 ≤ lastE r := (key r.Log 1 top h hn).1
  okL_last2 {r : api_Replica} {top : Int} (h : okL r.Log 1 top = true) (hn : r.Log.length ≠ 0) : lastE r ≤ top := (key r.Log 1 top h hn).2
  key : ∀ (xs : List api_Entry) (lo top : Int), okL xs lo top = true → xs.length ≠ 0 → lo ≤ (match xs.getLast? with | some x => x.Epoch | none => 0) ∧ (match xs.getLast? with | some x => x.Epoch | none => 0) ≤ top
    | [], lo, top, _, hn => by simp at hn
    | [x], lo, top, h, _ => by
      simp [okL] at h
      exact h.1
    | x :: y :: xs, lo, top, h, _ => by
      unfold okL at h
      simp only [Bool.and_eq_true, decide_eq_true_eq] at h
      have := key (y :: xs) x.Epoch top h.2.2 (by simp)
      rw [List.getLast?_cons_cons]
      exact ⟨by omega, this.2⟩

/-! #### the log -/
theorem few_l7 (K : Nat) (xs : List (List api_Entry)) (hx : xs.length ≤ 1000) : ∀ (k n : Nat), xs.length - n < k → n ≤ xs.length →
    workflowlaw52_few.l7 K xs k (n : Int) = some (if ∀ l ∈ xs.drop n, l.length ≤ 200 then Out.go () else Out.done false) := by
  intro k
  induction k with
  | zero => intro n h; omega
  | succ k ih =>
    intro n h hn
    unfold workflowlaw52_few.l7
    by_cases hlt : n < xs.length
    · rw [if_pos (by omega), if_pos (by omega), Int.toNat_natCast, wrap_succ (by omega), ih (n + 1) (by omega) (by omega), drop_step hlt ([] : List api_Entry)]
      generalize xs.getD n ([] : List api_Entry) = l
      by_cases hd : l.length ≤ 200
      · rw [if_neg (by omega)]
        simp only [List.forall_mem_cons, hd, true_and]
      · rw [if_pos (by omega)]
        simp only [List.forall_mem_cons, hd, false_and, if_false]
    · rw [if_neg (by omega), drop_end hlt]
      simp

theorem few_eq (K : Nat) (xs : List (List api_Entry)) (hx : xs.length ≤ 1000) (hK : 1001 ≤ K) : ((∀ l ∈ xs, l.length ≤ 200) ∧ workflowlaw52_few K xs = some true) ∨ ((¬ ∀ l ∈ xs, l.length ≤ 200) ∧ workflowlaw52_few K xs = some false) := by
  unfold workflowlaw52_few
  rw [show (0 : Int) = ((0 : Nat) : Int) from rfl, few_l7 K xs hx K 0 (by omega) (by omega)]
  simp only [List.drop_zero]
  by_cases h2 : ∀ l ∈ xs, l.length ≤ 200
  · rw [if_pos h2]; exact .inl ⟨h2, rfl⟩
  · rw [if_neg h2]; exact .inr ⟨h2, rfl⟩

theorem works52 : workflowlaw52_works 100000 = some true := by decide +kernel

theorem entries_l9 (K : Nat) (xs : List api_Entry) (hl : xs.length ≤ 100000) (hd : ∀ x ∈ xs, x.Data.length ≤ 65536) : ∀ (k n : Nat), xs.length - n < k → n ≤ xs.length →
    replog_entries.l9 K xs k (n : Int) xs = some xs := by
  intro k
  induction k with
  | zero => intro n h; omega
  | succ k ih =>
    intro n h hn
    unfold replog_entries.l9
    by_cases hlt : n < xs.length
    · rw [if_pos (by omega), if_pos (by omega), Int.toNat_natCast, if_pos hlt, wrap_succ (by omega), Clone_eq _ _ (hd _ (getD_mem hlt _))]
      simp only [Option.bind_some]
      have e0 : xs.getD n (⟨(0 : Int), ([] : List UInt8)⟩ : api_Entry) = xs[n] := by simp [List.getD_eq_getElem?_getD, hlt]
      rw [e0]
      have e1 : xs.set n (⟨xs[n].Epoch, xs[n].Data⟩ : api_Entry) = xs := List.set_getElem_self hlt
      rw [e1]
      exact ih (n + 1) (by omega) (by omega)
    · rw [if_neg (by omega)]

theorem entries_eq (K : Nat) (xs : List api_Entry) (hl : xs.length ≤ 100000) (hd : ∀ x ∈ xs, x.Data.length ≤ 65536) (hK : xs.length < K) : replog_entries K xs = some xs := by
  unfold replog_entries slices_Clone_53
  rw [if_pos (by omega)]
  simp only [Option.bind_some]
  rw [show (0 : Int) = ((0 : Nat) : Int) from rfl, entries_l9 K xs hl hd K 0 (by omega) (by omega)]
  rfl

def leadB (r : api_Replica) (e : Int) (d : List UInt8) : api_Replica × Int :=
  if rightB r = true ∧ 1 ≤ e then
    if d.length > 65536 then (⟨0, 0, 0, []⟩, 6) else if e ≠ r.Epoch then (⟨0, 0, 0, []⟩, 25) else if r.Log.length ≥ 5000 then (⟨0, 0, 0, []⟩, 18)
    else (⟨r.Epoch, r.Vote, r.Commit, r.Log ++ [⟨e, d⟩]⟩, 0)
  else (⟨0, 0, 0, []⟩, 2)

theorem rLead_eq (K : Nat) (r : api_Replica) (e : Int) (d : List UInt8) (hK : 5001 ≤ K) : workflowref52_Lead K r e d = some (leadB r e d) := by
  unfold workflowref52_Lead leadB
  rw [rRight_eq K r hK]
  simp only [Option.bind_some]
  by_cases h0 : rightB r = true
  · rw [if_pos h0]
    by_cases h1 : e < 1
    · rw [if_pos h1, if_neg (by omega)]
    rw [if_neg h1, if_pos (show rightB r = true ∧ 1 ≤ e from ⟨h0, by omega⟩)]
    by_cases h2 : d.length > 65536
    · rw [if_pos (by omega), if_pos h2]
    rw [if_neg (by omega), if_neg h2]
    by_cases h3 : e ≠ r.Epoch
    · rw [if_pos h3, if_pos h3]
    rw [if_neg h3, if_neg h3]
    by_cases h4 : r.Log.length ≥ 5000
    · rw [if_pos (by omega), if_pos h4]
    rw [if_neg (by omega), if_neg h4, if_pos (by omega), if_pos (by simp; omega)]
  · rw [if_neg h0, if_neg (fun h => h0 h.1)]

theorem Lead_eq (K : Nat) (r : api_Replica) (e : Int) (d : List UInt8) (hK : 5001 ≤ K) : replog_Lead K r e d = some (leadB r e d) := by
  unfold replog_Lead leadB
  rw [Right_eq K r hK]
  simp only [Option.bind_some]
  by_cases h0 : rightB r = true
  · have hf := rightB_fit h0
    rw [if_pos h0]
    simp only [Option.bind_some]
    by_cases h1 : e < 1
    · rw [if_pos (by simpa using h1), if_neg (by omega)]
    rw [if_neg (by simpa using h1), if_pos (show rightB r = true ∧ 1 ≤ e from ⟨h0, by omega⟩)]
    by_cases h2 : d.length > 65536
    · rw [if_pos (by omega), if_pos h2]
    rw [if_neg (by omega), if_neg h2]
    by_cases h3 : e ≠ r.Epoch
    · rw [if_pos h3, if_pos h3]
    rw [if_neg h3, if_neg h3]
    by_cases h4 : r.Log.length ≥ 5000
    · rw [if_pos (by omega), if_pos h4]
    rw [if_neg (by omega), if_neg h4, entries_eq K r.Log (by omega) hf.2 (by omega), Clone_eq K d (by omega)]
    simp only [Option.bind_some]
    rw [if_pos (by simp; omega)]
  · rw [if_neg h0]
    simp only [Option.bind_some, if_true]
    rw [if_neg (fun h => h0 h.1)]

theorem leadB_fit (r : api_Replica) (e : Int) (d : List UInt8) : Fit (leadB r e d).1 := by
  unfold leadB
  split
  · rename_i h
    have hf := rightB_fit h.1
    split
    · exact ⟨by simp, by simp⟩
    · split
      · exact ⟨by simp, by simp⟩
      · split
        · exact ⟨by simp, by simp⟩
        · refine ⟨by simp; omega, fun x hx => ?_⟩
          simp only [List.mem_append, List.mem_singleton] at hx
          rcases hx with hx | rfl
          · exact hf.2 x hx
          · show d.length ≤ 65536; omega
  · exact ⟨by simp, by simp⟩

theorem law_ReplogLeads (r : api_Replica) (e : Int) (d : List UInt8) : workflowlaw52_ReplogLeads 100000 r e d = some true := by
  unfold workflowlaw52_ReplogLeads
  have hfin : (Option.bind (replog_Lead 100000 r e d) (fun (a3_0, a3_1) => (Option.bind (workflowref52_Lead 100000 r e d) (fun (a4_0, a4_1) => (if a3_1 = a4_1 then (Option.bind (workflowref52_Same 100000 a3_0 a4_0) (fun a5 => (if a5 = true then (Option.bind (workflowlaw52_works 100000) (fun a6 => some a6)) else some false))) else some false))))) = some true := by
    rw [Lead_eq _ _ _ _ (by omega), rLead_eq _ _ _ _ (by omega)]
    simp only [Option.bind_some]
    rw [if_pos trivial, Same_self _ _ (leadB_fit r e d) (by omega)]
    simp only [Option.bind_some, if_true]
    rw [works52]
    rfl
  rcases few_eq 100000 [r.Log] (by simp) (by omega) with ⟨h, hl⟩ | ⟨h, hl⟩
  · rw [hl]
    simp only [Option.bind_some, if_true]
    by_cases h2 : (d.length : Int) > 70000
    · rw [if_pos (by simpa using h2), works52]; rfl
    · rw [if_neg (by simpa using h2)]; exact hfin
  · rw [hl]
    simp only [Option.bind_some, Bool.false_eq_true, if_false, if_true]
    rw [works52]
    rfl

end Go.Proofs.Ytkcaccppmenfmaa
