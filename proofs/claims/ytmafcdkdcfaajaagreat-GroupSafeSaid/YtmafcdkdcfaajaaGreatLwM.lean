/- The law. -/
import Derived.Test.YtmafcdkdcfaajaaGreatLwL
set_option linter.unusedVariables false
set_option linter.unusedSimpArgs false
namespace Go.Proofs.YtmafcdkdcfaajaaGreat
open Eng
def commitN (r : api_Replica) : Nat := min r.Log.length r.Commit.toNat
theorem CloneH_eq (K : Nat) (l : List UInt8) (h : l.length ≤ 140737488355328) : bytes_Clone_59 K l = some l := by
 unfold bytes_Clone_59
 rw [if_pos (by omega)]
theorem Committed_l9 (K : Nat) (r : api_Replica) (hl : r.Log.length ≤ 5000) (hd : ∀ x ∈ r.Log, x.Data.length ≤ 140737488355328) : ∀ (k n : Nat), commitN r - n < k → n ≤ commitN r →
  replog_Committed.l9 K r k (n : Int) ((r.Log.take n).map (·.Data)) = some ((r.Log.take (commitN r)).map (·.Data)) := by
 have hs : (slc r.Log 0 ((if (r.Log.length : Int) < (if (0 : Int) > r.Commit then 0 else r.Commit) then (r.Log.length : Int) else (if (0 : Int) > r.Commit then 0 else r.Commit)))) = r.Log.take (commitN r) := by
  rw [slc_take]
  congr 1
  unfold commitN
  split <;> split <;> omega
 have hlen : (r.Log.take (commitN r)).length = commitN r := by rw [List.length_take]; unfold commitN; omega
 intro k
 induction k with
 | zero => intro n h; omega
 | succ k ih =>
  intro n h hn
  have hcl : commitN r ≤ r.Log.length := by unfold commitN; omega
  unfold replog_Committed.l9
  rw [hs, hlen]
  by_cases hlt : n < commitN r
  ·have hlt2 : n < r.Log.length := by omega
   have hg : (r.Log.take (commitN r)).getD n z_api_Entry = r.Log.getD n z_api_Entry := by
    rw [List.getD_eq_getElem?_getD, List.getD_eq_getElem?_getD, List.getElem?_take, if_pos hlt]
   rw [if_pos (by omega), if_pos (by omega), Int.toNat_natCast, hg, CloneH_eq _ _ (hd _ (getD_mem hlt2 _))]
   simp only [Option.bind_some]
   rw [if_pos (by simp; omega), wrap_succ (by omega)]
   have e : (r.Log.take n).map (·.Data) ++ [(r.Log.getD n z_api_Entry).Data] = (r.Log.take (n + 1)).map (·.Data) := by
    rw [List.take_succ_eq_append_getElem hlt2, List.map_append]
    simp [List.getD_eq_getElem?_getD, hlt2]
   rw [e]
   exact ih (n + 1) (by omega) (by omega)
  ·rw [if_neg (by omega), show n = commitN r from by omega]
theorem Committed_eq (K : Nat) (r : api_Replica) (hl : r.Log.length ≤ 5000) (hd : ∀ x ∈ r.Log, x.Data.length ≤ 140737488355328) (hK : 5000 < K) : replog_Committed K r = some ((r.Log.take (commitN r)).map (·.Data)) := by
 unfold replog_Committed
 rw [if_pos (by split <;> split <;> omega)]
 have h := Committed_l9 K r hl hd K 0 (by unfold commitN; omega) (by omega)
 rw [show ((0 : Nat) : Int) = 0 from rfl] at h
 simp only [List.take_zero, List.map_nil] at h
 rw [h]
 rfl
theorem SameData_l15 (K D : Nat) (l : List (List UInt8)) (hl : l.length ≤ 5000) (hd : ∀ x ∈ l, x.length ≤ D) (hK : D < K) (hD : D ≤ 140737488355328) : ∀ (k n : Nat), l.length - n < k → n ≤ l.length →
  workflowref52_SameData.l15 K l l k (n : Int) = some (Out.go ()) := by
 intro k
 induction k with
 | zero => intro n h; omega
 | succ k ih =>
  intro n h hn
  unfold workflowref52_SameData.l15
  by_cases hlt : n < l.length
  ·have hm := hd _ (getD_mem hlt ([] : List UInt8))
   rw [if_pos (by omega), if_pos (by omega), if_pos (by omega), Int.toNat_natCast, Agree_eq K _ _ (by show (l.getD n ([] : List UInt8)).length < _; omega) (by show (l.getD n ([] : List UInt8)).length < _; omega)]
   simp only [Option.bind_some, decide_true, if_true]
   rw [wrap_succ (by omega)]
   exact ih (n + 1) (by omega) (by omega)
  ·rw [if_neg (by omega)]
theorem SameData_eq (K D : Nat) (l : List (List UInt8)) (hl : l.length ≤ 5000) (hd : ∀ x ∈ l, x.length ≤ D) (hK : D < K) (hK2 : 5000 < K) (hD : D ≤ 140737488355328) : workflowref52_SameData K l l = some true := by
 unfold workflowref52_SameData
 have h := SameData_l15 K D l hl hd hK hD K 0 (by omega) (by omega)
 rw [show ((0 : Nat) : Int) = 0 from rfl] at h
 rw [if_neg (by simp), h]
 rfl
end Go.Proofs.YtmafcdkdcfaajaaGreat
