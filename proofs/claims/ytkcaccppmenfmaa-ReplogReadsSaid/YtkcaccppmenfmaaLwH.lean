/- The law on what appends keep answers with true. -/
import Derived.Test.YtkcaccppmenfmaaLwG
set_option linter.unusedVariables false
set_option linter.unusedSimpArgs false
namespace Go.Proofs.Ytkcaccppmenfmaa
open Eng

theorem rCommon_l7 (K : Nat) (a b : api_Replica) (hf : Fit a) (hb : Fit b) (hK : 65537 ≤ K) : ∀ (k n : Nat), a.Log.length - n < k → n ≤ a.Log.length →
    workflowref52_Common.l7 K a b k (n : Int) = some ((n + common (a.Log.drop n) (b.Log.drop n) : Nat) : Int) := by
  obtain ⟨hl, hd⟩ := hf
  have hbl := hb.1
  intro k
  induction k with
  | zero => intro n h; omega
  | succ k ih =>
    intro n h hn
    unfold workflowref52_Common.l7
    by_cases hlt : n < a.Log.length
    · by_cases hlt2 : n < b.Log.length
      · rw [if_pos (by omega), if_pos (by omega), if_pos (by omega), if_pos (by omega), Int.toNat_natCast,
          Agree_eq K _ _ (by have := hd _ (getD_mem hlt (⟨(0 : Int), ([] : List UInt8)⟩ : api_Entry)); omega) (by have := hd _ (getD_mem hlt (⟨(0 : Int), ([] : List UInt8)⟩ : api_Entry)); omega),
          wrap_succ (by omega), ih (n + 1) (by omega) (by omega), drop_step hlt (⟨(0 : Int), ([] : List UInt8)⟩ : api_Entry), drop_step hlt2 (⟨(0 : Int), ([] : List UInt8)⟩ : api_Entry)]
        simp only [Option.bind_some, common, decide_eq_true_eq]
        by_cases he : a.Log.getD n (⟨(0 : Int), ([] : List UInt8)⟩ : api_Entry) = b.Log.getD n (⟨(0 : Int), ([] : List UInt8)⟩ : api_Entry)
        · rw [if_pos he, if_pos he]
          congr 2
          omega
        · rw [if_neg he, if_neg he]
          congr 2
      · rw [if_pos (by omega), if_neg (by omega), drop_end hlt2]
        congr 2
        cases a.Log.drop n <;> simp [common]
    · rw [if_neg (by omega), drop_end hlt]
      congr 2

theorem rCommon_eq (K : Nat) (a b : api_Replica) (hf : Fit a) (hb : Fit b) (hK : 65537 ≤ K) : workflowref52_Common K a b = some ((common a.Log b.Log : Nat) : Int) := by
  unfold workflowref52_Common
  have h := rCommon_l7 K a b hf hb hK K 0 (by have := hf.1; omega) (by omega)
  rw [show ((0 : Nat) : Int) = 0 from rfl] at h
  rw [h]
  simp

abbrev A0 : workflowlaw52_Append := ⟨0, 0, 0, [], 0⟩

theorem keeps_l56 (K : Nat) (ps : List workflowlaw52_Append) (n q : Nat) (m : workflowlaw52_Append) (hm : ps.getD n (⟨(0 : Int), (0 : Int), (0 : Int), ([] : List api_Entry), (0 : Int)⟩ : workflowlaw52_Append) = m) (a : api_Replica) (ha : Fit a) (hK : 65537 ≤ K) (hq : m.Prev = (q : Int)) (hmid : (a.Log.drop q).take m.Entries.length = m.Entries) (hlen : q + m.Entries.length ≤ a.Log.length) :
    ∀ (k i : Nat), m.Entries.length - i < k → i ≤ m.Entries.length → workflowlaw52_ReplogKeeps.l56 K ps (n : Int) a k (i : Int) = some (Out.go ()) := by
  obtain ⟨hl, hd⟩ := ha
  intro k
  induction k with
  | zero => intro i h; omega
  | succ k ih =>
    intro i h hi
    unfold workflowlaw52_ReplogKeeps.l56
    rw [Int.toNat_natCast, hm, hq]
    by_cases hlt : i < m.Entries.length
    · have hw : IntKind.i64.wrap ((q : Int) + (i : Int)) = ((q + i : Nat) : Int) := by rw [wrap_small (by omega) (by omega)]; omega
      have hlt2 : q + i < a.Log.length := by omega
      rw [if_pos (by omega), if_pos (by omega), hw, if_neg (by omega), if_pos (by omega), Int.toNat_natCast, Int.toNat_natCast,
        Agree_eq K _ _ (by have := hd _ (getD_mem hlt2 (⟨(0 : Int), ([] : List UInt8)⟩ : api_Entry)); omega) (by have := hd _ (getD_mem hlt2 (⟨(0 : Int), ([] : List UInt8)⟩ : api_Entry)); omega)]
      have he : a.Log.getD (q + i) (⟨(0 : Int), ([] : List UInt8)⟩ : api_Entry) = m.Entries.getD i (⟨(0 : Int), ([] : List UInt8)⟩ : api_Entry) := by
        rw [List.getD_eq_getElem?_getD, List.getD_eq_getElem?_getD]
        conv => rhs; rw [← hmid]
        rw [List.getElem?_take, if_pos hlt, List.getElem?_drop]
      simp only [Option.bind_some, he, decide_true, if_true]
      rw [wrap_succ (by omega)]
      exact ih (i + 1) (by omega) (by omega)
    · rw [if_neg (by omega)]

theorem keeps_l15 (ps : List workflowlaw52_Append) (hx : ps.length ≤ 20) : ∀ (k n : Nat) (now : api_Replica), rightB now = true → ps.length - n < k → n ≤ ps.length →
    workflowlaw52_ReplogKeeps.l15 100000 ps k (n : Int) now.Epoch now.Vote now.Commit now.Log = some (Out.go ()) ∨
    workflowlaw52_ReplogKeeps.l15 100000 ps k (n : Int) now.Epoch now.Vote now.Commit now.Log = some (Out.done true) := by
  intro k
  induction k with
  | zero => intro n now _ h; omega
  | succ k ih =>
    intro n now hr h hn
    unfold workflowlaw52_ReplogKeeps.l15
    by_cases hlt : n < ps.length
    · rw [if_pos (by omega), if_pos (by omega), Int.toNat_natCast, wrap_succ (by omega)]
      generalize hm : ps.getD n (⟨(0 : Int), (0 : Int), (0 : Int), ([] : List api_Entry), (0 : Int)⟩ : workflowlaw52_Append) = m
      rcases few_eq 100000 [m.Entries] (by simp) (by omega) with ⟨hfw, hl⟩ | ⟨hfw, hl⟩
      · rw [hl]
        have h2 : m.Entries.length ≤ 200 := hfw m.Entries (by simp)
        simp only [Option.bind_some, if_true]
        have hnow : (⟨now.Epoch, now.Vote, now.Commit, now.Log⟩ : api_Replica) = now := rfl
        rw [hnow, Accept_eq _ _ _ _ _ _ _ (by omega) (by omega)]
        simp only [Option.bind_some]
        by_cases h0 : (acceptB now m.Epoch m.Prev m.PrevEpoch m.Entries m.Commit).2 = 0
        · have hacc := accept_ok h0
          have hft := acceptB_fit (r := now) (e := m.Epoch) (p := m.Prev) (pe := m.PrevEpoch) (es := m.Entries) (cm := m.Commit)
          generalize (acceptB now m.Epoch m.Prev m.PrevEpoch m.Entries m.Commit) = res at *
          obtain ⟨a, err⟩ := res
          simp only at h0 hacc hft ⊢
          rw [if_neg (by simpa using h0), Accept_eq _ _ _ _ _ _ _ (by omega) (by omega), hacc.again]
          simp only [Option.bind_some]
          rw [if_neg (by simp), Same_self _ _ hft (by omega)]
          simp only [Option.bind_some, if_true]
          rw [rRight_eq _ _ (by omega), hacc.right]
          simp only [Option.bind_some, if_true]
          have hr2 := hacc.right
          obtain ⟨heq, hs, hge, hlen, hprev, hcomm, hroom⟩ := hacc
          obtain ⟨_, he, hp, hpe, hpp, hcm, hri⟩ := suitsB_iff.1 hs
          have hn2 := (rightB_iff.1 hr).2.2.2.1
          have hep : a.Epoch = m.Epoch := by rw [heq]
          have hlog : a.Log = logB now.Log m.Entries m.Prev.toNat := by rw [heq]
          have hco : now.Commit ≤ a.Commit := by
            rw [heq]; show now.Commit ≤ commB now m.Prev m.Commit m.Entries.length
            unfold commB; simp only; split <;> split <;> omega
          rw [if_neg (by omega), if_neg (by omega), rCommon_eq _ _ _ (rightB_fit hr) hft (by omega)]
          simp only [Option.bind_some]
          have hcc := logB_common hlen hn2.2 hcomm
          rw [← hlog] at hcc
          rw [if_neg (by omega)]
          have hmid := logB_mid (es := m.Entries) hlen
          rw [← hlog] at hmid
          have h56 := keeps_l56 100000 ps n m.Prev.toNat m hm a hft (by omega) (by omega) hmid.1 hmid.2 100000 0 (by omega) (by omega)
          rw [show ((0 : Nat) : Int) = 0 from rfl] at h56
          rw [h56]
          simp only [obind]
          exact ih (n + 1) a hr2 (by omega) (by omega)
        · rw [if_pos (by simpa using h0)]
          exact ih (n + 1) now hr (by omega) (by omega)
      · rw [hl]
        simp only [Option.bind_some, Bool.false_eq_true, if_false]
        rw [works52]
        exact .inr rfl
    · rw [if_neg (by omega)]
      exact .inl rfl

theorem law_ReplogKeeps (r : api_Replica) (ps : List workflowlaw52_Append) : workflowlaw52_ReplogKeeps 100000 r ps = some true := by
  unfold workflowlaw52_ReplogKeeps
  have hw : (Option.bind (workflowlaw52_works 100000) (fun a3 => some a3)) = some true := by rw [works52]; rfl
  by_cases hx : (ps.length : Int) > 20
  · rw [if_pos hx]
    simp only [Option.bind_some, if_true]
    exact hw
  · rw [if_neg hx]
    rcases few_eq 100000 [r.Log] (by simp) (by omega) with ⟨h, hl⟩ | ⟨h, hl⟩
    · rw [hl]
      simp only [Option.bind_some, if_true]
      rw [rRight_eq _ _ (by omega)]
      simp only [Option.bind_some]
      by_cases hr : rightB r = true
      · rw [hr]
        simp only [Bool.not_true, Bool.false_eq_true, if_false]
        have h15 := keeps_l15 ps (by omega) 100000 0 r hr (by omega) (by omega)
        rw [show ((0 : Nat) : Int) = 0 from rfl] at h15
        rcases h15 with hh | hh
        · rw [hh]; exact hw
        · rw [hh]; rfl
      · simp only [Bool.not_eq_true] at hr
        rw [hr]
        simp only [Bool.not_false, if_true]
        exact hw
    · rw [hl]
      simp only [Option.bind_some, Bool.false_eq_true, if_false, if_true]
      exact hw

end Go.Proofs.Ytkcaccppmenfmaa
