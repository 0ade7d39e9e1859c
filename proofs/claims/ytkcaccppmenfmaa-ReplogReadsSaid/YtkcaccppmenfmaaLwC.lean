/- One vote in each epoch: the law answers with true. -/
import Derived.Test.YtkcaccppmenfmaaLwB
set_option linter.unusedVariables false
set_option linter.unusedSimpArgs false
namespace Go.Proofs.Ytkcaccppmenfmaa
open Eng

theorem okL_up {xs : List api_Entry} : ∀ {lo top top' : Int}, top ≤ top' → okL xs lo top = true → okL xs lo top' = true := by
  induction xs with
  | nil => intros; rfl
  | cons e es ih =>
    intro lo top top' h h0
    unfold okL at h0 ⊢
    simp only [Bool.and_eq_true, decide_eq_true_eq] at h0 ⊢
    exact ⟨⟨h0.1.1, by omega⟩, h0.2.1, ih h h0.2.2⟩

theorem rightB_iff {r : api_Replica} : rightB r = true ↔ (0 ≤ r.Epoch ∧ r.Epoch ≤ 1099511627776) ∧ (-1 ≤ r.Vote ∧ r.Vote ≤ 8) ∧ r.Log.length ≤ 5000 ∧ (0 ≤ r.Commit ∧ r.Commit ≤ r.Log.length) ∧ okL r.Log 1 r.Epoch = true := by
  unfold rightB
  simp only [Bool.and_eq_true, decide_eq_true_eq]

theorem right_to {r : api_Replica} (h : rightB r = true) {e v : Int} (he : r.Epoch ≤ e) (he2 : e ≤ 1099511627776) (hv : -1 ≤ v ∧ v ≤ 8) : rightB ⟨e, v, r.Commit, r.Log⟩ = true := by
  rw [rightB_iff] at h ⊢
  exact ⟨⟨by show 0 ≤ e; omega, he2⟩, hv, h.2.2.1, h.2.2.2.1, okL_up he h.2.2.2.2⟩

theorem obs_ge {r : api_Replica} {e : Int} (he : r.Epoch ≤ e) : (obs r e).Epoch = e := by
  unfold obs
  split
  · rfl
  · omega

theorem obs_right {r : api_Replica} (h : rightB r = true) {e : Int} (he : r.Epoch ≤ e) (he2 : e ≤ 1099511627776) : rightB (obs r e) = true := by
  unfold obs
  split
  · exact right_to h he he2 (by omega)
  · exact h

theorem obs_id {r : api_Replica} {e : Int} (he : ¬ e > r.Epoch) : obs r e = r := by
  unfold obs
  rw [if_neg he]

/-- An answer without an error. -/
theorem ask_ok {r : api_Replica} {e c li le : Int} (h : (askB r e c li le).2.2 = 0) :
    rightB r = true ∧ r.Epoch ≤ e ∧ e ≤ 1099511627776 ∧ (0 ≤ c ∧ c < 9) ∧ askB (askB r e c li le).1 e c li le = askB r e c li le ∧
      ((askB r e c li le = (⟨e, c, r.Commit, r.Log⟩, true, 0) ∧ ((obs r e).Vote = -1 ∨ (obs r e).Vote = c)) ∨ askB r e c li le = (obs r e, false, 0)) := by
  by_cases h0 : rightB r = true ∧ 1 ≤ e ∧ e ≤ 1099511627776 ∧ (0 ≤ c ∧ c < 9) ∧ 0 ≤ li ∧ 0 ≤ le
  · by_cases h1 : e < r.Epoch
    · exfalso
      unfold askB at h
      rw [if_pos h0, if_pos h1] at h
      cases h
    · have hge : r.Epoch ≤ e := by omega
      obtain ⟨hr, he1, he2, hc, hli, hle⟩ := h0
      by_cases h2 : ((obs r e).Vote = -1 ∨ (obs r e).Vote = c) ∧ (le > lastE r ∨ (le = lastE r ∧ li ≥ r.Log.length))
      · have e1 : askB r e c li le = (⟨e, c, r.Commit, r.Log⟩, true, 0) := by
          unfold askB
          rw [if_pos ⟨hr, he1, he2, hc, hli, hle⟩, if_neg h1, if_pos h2, obs_ge hge]
        refine ⟨hr, hge, he2, hc, ?_, .inl ⟨e1, h2.1⟩⟩
        rw [e1]
        show askB ⟨e, c, r.Commit, r.Log⟩ e c li le = _
        have hr2 := right_to hr hge he2 (v := c) (by omega)
        have ho : obs ⟨e, c, r.Commit, r.Log⟩ e = ⟨e, c, r.Commit, r.Log⟩ := obs_id (by show ¬ e > e; omega)
        have hl : lastE ⟨e, c, r.Commit, r.Log⟩ = lastE r := rfl
        unfold askB
        rw [if_pos ⟨hr2, he1, he2, hc, hli, hle⟩, if_neg (by show ¬ e < e; omega), ho, hl, if_pos ⟨.inr rfl, h2.2⟩]
      · have e1 : askB r e c li le = (obs r e, false, 0) := by
          unfold askB
          rw [if_pos ⟨hr, he1, he2, hc, hli, hle⟩, if_neg h1, if_neg h2]
        refine ⟨hr, hge, he2, hc, ?_, .inr e1⟩
        rw [e1]
        show askB (obs r e) e c li le = _
        have hr2 := obs_right hr hge he2
        have ho : obs (obs r e) e = obs r e := obs_id (by rw [obs_ge hge]; omega)
        unfold askB
        rw [if_pos ⟨hr2, he1, he2, hc, hli, hle⟩, if_neg (by rw [obs_ge hge]; omega), ho, lastE_obs, obs_log, obs_commit, if_neg h2]
  · exfalso
    unfold askB at h
    rw [if_neg h0] at h
    cases h

def Inv (r : api_Replica) (votes : List Int) (now : api_Replica) : Prop :=
  now.Log = r.Log ∧ now.Commit = r.Commit ∧ votes.length = 2000 ∧ ∀ e : Nat, now.Epoch ≤ e → votes.getD e 0 > 0 → (e : Int) = now.Epoch ∧ votes.getD e 0 = now.Vote + 1

theorem once_l19 (r : api_Replica) (ps : List workflowlaw54_Plea) (hx : ps.length ≤ 60) : ∀ (k n : Nat) (votes : List Int) (now : api_Replica), Inv r votes now → ps.length - n < k → n ≤ ps.length →
    workflowlaw54_BallotOnce.l19 100000 r ps k (n : Int) votes now.Epoch now.Vote now.Commit now.Log = some (Out.go ()) ∨
    workflowlaw54_BallotOnce.l19 100000 r ps k (n : Int) votes now.Epoch now.Vote now.Commit now.Log = some (Out.done true) := by
  intro k
  induction k with
  | zero => intro n votes now _ h; omega
  | succ k ih =>
    intro n votes now hi h hn
    unfold workflowlaw54_BallotOnce.l19
    by_cases hlt : n < ps.length
    · rw [if_pos (by omega), if_pos (by omega), Int.toNat_natCast, wrap_succ (by omega)]
      generalize ps.getD n (⟨(0 : Int), (0 : Int), (0 : Int), (0 : Int)⟩ : workflowlaw54_Plea) = p
      by_cases hp : p.Epoch < 0 ∨ p.Epoch > 1500
      · right
        have e1 : (if p.Epoch < 0 then some true else some (decide (p.Epoch > 1500))) = some true := by
          rcases hp with hp | hp
          · rw [if_pos hp]
          · rw [if_neg (by omega)]; simp [hp]
        rw [e1]
        simp only [Option.bind_some, if_true]
        rw [works54]
        rfl
      · have e1 : (if p.Epoch < 0 then some true else some (decide (p.Epoch > 1500))) = some false := by
          rw [if_neg (by omega)]; simp; omega
        rw [e1]
        simp only [Option.bind_some, Bool.false_eq_true, if_false]
        rw [Ask_eq _ _ _ _ _ _ (by omega)]
        simp only [Option.bind_some]
        have hnow : (⟨now.Epoch, now.Vote, now.Commit, now.Log⟩ : api_Replica) = now := rfl
        rw [hnow]
        by_cases h0 : (askB now p.Epoch p.Candidate p.Index p.Last).2.2 = 0
        · obtain ⟨hr, hge, he2, hc, hagain, hcase⟩ := ask_ok h0
          rw [if_neg (by simpa using h0)]
          obtain ⟨hlog, hcom, hlen, hv⟩ := hi
          have hep : (askB now p.Epoch p.Candidate p.Index p.Last).1.Epoch = p.Epoch := by
            rcases hcase with ⟨hh, _⟩ | hh
            · rw [hh]
            · rw [hh]; exact obs_ge hge
          have hlg : (askB now p.Epoch p.Candidate p.Index p.Last).1.Log = r.Log := by
            rcases hcase with ⟨hh, _⟩ | hh
            · rw [hh]; exact hlog
            · rw [hh]; rw [obs_log]; exact hlog
          have hcm : (askB now p.Epoch p.Candidate p.Index p.Last).1.Commit = r.Commit := by
            rcases hcase with ⟨hh, _⟩ | hh
            · rw [hh]; exact hcom
            · rw [hh]; rw [obs_commit]; exact hcom
          have hft := askB_fit (r := now) p.Epoch p.Candidate p.Index p.Last
          rw [if_neg (by rw [hep]; omega), if_neg (by rw [hcm]; simp), hlg]
          have hfit : Fit (⟨0, 0, 0, r.Log⟩ : api_Replica) := by
            have := hft; unfold Fit at this ⊢; rw [hlg] at this; exact this
          rw [Same_self _ _ hfit (by omega)]
          simp only [Option.bind_some, if_true]
          rcases hcase with ⟨hh, hvote⟩ | hh
          · -- yes
            rw [hh] at hagain ⊢
            simp only [if_true]
            rw [if_neg (by simp), if_pos (by omega), if_pos (by omega)]
            have hw : IntKind.i64.wrap (p.Candidate + 1) = p.Candidate + 1 := wrap_small (by omega) (by omega)
            have hbody : (if votes.getD (Int.toNat p.Epoch) (0 : Int) > 0 then (if votes.getD (Int.toNat p.Epoch) (0 : Int) ≠ IntKind.i64.wrap (p.Candidate + 1) then some (Out.done false) else some (Out.go (votes.set (Int.toNat p.Epoch) (IntKind.i64.wrap (p.Candidate + 1))))) else some (Out.go (votes.set (Int.toNat p.Epoch) (IntKind.i64.wrap (p.Candidate + 1)))) : Option (Out Bool (List Int))) = some (Out.go (votes.set (Int.toNat p.Epoch) (p.Candidate + 1))) := by
              rw [hw]
              by_cases hpos : votes.getD (Int.toNat p.Epoch) (0 : Int) > 0
              · obtain ⟨g1, g2⟩ := hv (Int.toNat p.Epoch) (by omega) hpos
                have hid : obs now p.Epoch = now := obs_id (by omega)
                rw [hid] at hvote
                rw [if_pos hpos, if_neg]
                rw [g2]
                rcases hvote with hvote | hvote
                · omega
                · simp; omega
              · rw [if_neg hpos]
            rw [hbody]
            simp only [obind]
            rw [Ask_eq _ _ _ _ _ _ (by omega)]
            simp only [Option.bind_some]
            rw [hagain]
            rw [if_pos (by simp)]
            rw [hlog] at *
            have hfit2 : Fit (⟨p.Epoch, p.Candidate, now.Commit, r.Log⟩ : api_Replica) := hfit
            rw [Same_self _ _ hfit2 (by omega)]
            simp only [Option.bind_some, if_true]
            refine ih (n + 1) _ ⟨p.Epoch, p.Candidate, now.Commit, r.Log⟩ ⟨rfl, hcom, by simpa using hlen, fun e he hpos => ?_⟩ (by omega) (by omega)
            replace he : p.Epoch ≤ (e : Int) := he
            by_cases hee : e = Int.toNat p.Epoch
            · subst hee
              have hlt2 : Int.toNat p.Epoch < votes.length := by omega
              rw [List.getD_eq_getElem?_getD, List.getElem?_set_self hlt2]
              exact ⟨by show ((Int.toNat p.Epoch : Nat) : Int) = p.Epoch; omega, rfl⟩
            · exfalso
              rw [List.getD_eq_getElem?_getD, List.getElem?_set_ne (by omega), ← List.getD_eq_getElem?_getD] at hpos
              have := (hv e (by omega) hpos).1
              omega
          · -- no
            rw [hh] at hagain ⊢
            simp only [Bool.false_eq_true, if_false, obind]
            rw [Ask_eq _ _ _ _ _ _ (by omega)]
            simp only [Option.bind_some]
            rw [hagain]
            rw [if_pos (by simp)]
            have hfit2 : Fit (obs now p.Epoch) := by rw [hh] at hft; exact hft
            rw [Same_self _ _ hfit2 (by omega)]
            simp only [Option.bind_some, if_true]
            have hol : (obs now p.Epoch).Log = r.Log := by rw [obs_log]; exact hlog
            have key := ih (n + 1) votes (obs now p.Epoch) ⟨hol, by rw [obs_commit]; exact hcom, hlen, fun e he hpos => by
              rw [obs_ge hge] at he ⊢
              have h3 := hv e (by omega) hpos
              have h4 : obs now p.Epoch = now := obs_id (by omega)
              rw [h4]
              exact ⟨by omega, h3.2⟩⟩ (by omega) (by omega)
            rw [hol] at key
            exact key
        · rw [if_pos (by simpa using h0)]
          exact ih (n + 1) votes now hi (by omega) (by omega)
    · rw [if_neg (by omega)]
      exact .inl rfl

theorem law_BallotOnce (r : api_Replica) (ps : List workflowlaw54_Plea) : workflowlaw54_BallotOnce 100000 r ps = some true := by
  unfold workflowlaw54_BallotOnce
  have hw : (Option.bind (workflowlaw54_works 100000) (fun a3 => some a3)) = some true := by rw [works54]; rfl
  have hmain : ps.length ≤ 60 → (obind (workflowlaw54_BallotOnce.l19 100000 r ps 100000 0 ((List.replicate (Int.toNat 2000) (0 : Int))) r.Epoch r.Vote r.Commit r.Log : Option (Out Bool Unit)) (fun r => r) (fun _ => (Option.bind (workflowlaw54_works 100000) (fun a9 => some a9)))) = some true := by
    intro hx
    have hinv : Inv r (List.replicate (Int.toNat 2000) (0 : Int)) r := ⟨rfl, rfl, by rw [List.length_replicate]; rfl, fun e _ hpos => by
      rw [List.getD_eq_getElem?_getD, List.getElem?_replicate] at hpos
      split at hpos
      · exact absurd hpos (by show ¬ ((0 : Int) > 0); omega)
      · exact absurd hpos (by show ¬ ((0 : Int) > 0); omega)⟩
    rcases once_l19 r ps hx 100000 0 _ r hinv (by omega) (by omega) with hh | hh
    · rw [show (0 : Int) = ((0 : Nat) : Int) from rfl] at *
      rw [hh]; exact hw
    · rw [show (0 : Int) = ((0 : Nat) : Int) from rfl] at *
      rw [hh]; rfl
  rcases large_eq 100000 r (by omega) with ⟨h, hl⟩ | ⟨h, hl⟩
  · rw [hl]
    simp only [Option.bind_some]
    rw [if_neg (by simp), rRight_eq _ _ (by omega)]
    simp only [Option.bind_some]
    by_cases h0 : rightB r = true
    · rw [if_pos h0]
      by_cases h1 : r.Epoch > 1000
      · rw [if_pos h1]
        simp only [Option.bind_some, if_true]
        exact hw
      · rw [if_neg h1]
        simp only [Option.bind_some]
        by_cases h2 : (ps.length : Int) > 60
        · rw [if_pos (by simpa using h2)]; exact hw
        · rw [if_neg (by simpa using h2)]; exact hmain (by omega)
    · rw [if_neg h0]
      simp only [Option.bind_some, if_true]
      exact hw
  · rw [hl]
    simp only [Option.bind_some, if_true]
    exact hw

end Go.Proofs.Ytkcaccppmenfmaa
