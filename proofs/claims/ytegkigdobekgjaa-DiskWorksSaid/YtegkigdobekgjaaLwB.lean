/- The law. -/
import Derived.Test.YtegkigdobekgjaaLwA
set_option linter.unusedVariables false
set_option linter.unusedSimpArgs false
set_option maxHeartbeats 2000000
namespace Go.Proofs.Ytegkigdobekgjaa
open Eng
structure Inv (N : Nat) (fs : FS) : Prop where
 s : MSorted fs
 k : ∀ p ∈ fs, badn p.1 = false
 f : ∀ p ∈ fs, 0 ≤ p.2.safe ∧ p.2.safe ≤ p.2.bytes.length
 n : fs.length ≤ N
theorem Inv.nil (N : Nat) : Inv N [] := ⟨List.Pairwise.nil, fun p hp => by simp at hp, fun p hp => by simp at hp, by simp⟩
theorem msn {α : Type} {l : List (List UInt8 × α)} (h : MSorted l) : (l.map (·.1)).Nodup := by
 rw [List.nodup_iff_pairwise_ne, List.pairwise_map]
 exact h.imp fun hab e => by rw [e, bl_irr] at hab; cases hab
theorem mfind_some {fs : FS} {nm : List UInt8} {x : disk_file} (h : mfind nm fs = some x) : (nm, x) ∈ fs := by
 induction fs with
 | nil => cases h
 | cons p fs ih =>
  unfold mfind at h
  split at h
  ·rename_i e
   cases h
   rw [← e]
   exact .head _
  ·exact .tail _ (ih h)
theorem split_find {fs : FS} {nm : List UInt8} {x : disk_file} (hs : MSorted fs) (h : mfind nm fs = some x) : fs.Perm ((nm, x) :: mdel nm fs) := by
 obtain ⟨A, B, e⟩ := List.append_of_mem (mfind_some h)
 have h1 : fs.Perm ((nm, x) :: (A ++ B)) := by rw [e]; exact List.perm_middle
 exact h1.trans ((mdel_perm (msn hs) h1 rfl).symm.cons _)
theorem fileOf_some {fs : FS} {nm : List UInt8} {x : disk_file} (h : mfind nm fs = some x) : fileOf nm fs = x := by unfold fileOf; rw [h]; rfl
theorem fileOf_none {fs : FS} {nm : List UInt8} (h : mfind nm fs = none) : fileOf nm fs = ⟨[], 0⟩ := by unfold fileOf; rw [h]; rfl
theorem tot_mdel {fs : FS} (hs : MSorted fs) (nm : List UInt8) : tot (mdel nm fs) + (fileOf nm fs).bytes.length = tot fs := by
 cases h : mfind nm fs with
 | none => rw [mdel_self h, fileOf_none h]; simp
 | some x =>
  rw [fileOf_some h, tot_perm (split_find hs h), tot_cons]
  show tot (mdel nm fs) + x.bytes.length = x.bytes.length + _
  omega
theorem tot_mput {fs : FS} (hs : MSorted fs) (nm : List UInt8) (v : disk_file) : tot (mput nm v fs) + (fileOf nm fs).bytes.length = tot fs + v.bytes.length := by
 have h1 : tot (mput nm v fs) = v.bytes.length + tot (mdel nm fs) := by
  show tot (mins (nm, v) (mdel nm fs)) = _
  rw [tot_perm (mins_perm (nm, v) (mdel nm fs)), tot_cons]
 have h2 := tot_mdel hs nm
 omega
theorem len_mdel (fs : FS) (nm : List UInt8) : (mdel nm fs).length ≤ fs.length := List.length_filter_le _ _
theorem Inv.mdel {N : Nat} {fs : FS} (h : Inv N fs) (nm : List UInt8) : Inv N (mdel nm fs) :=
 ⟨h.s.mdel nm, fun p hp => h.k p (mem_mdel.1 hp).1, fun p hp => h.f p (mem_mdel.1 hp).1, Nat.le_trans (len_mdel fs nm) h.n⟩
theorem Inv.mono {N M : Nat} {fs : FS} (h : Inv N fs) (hm : N ≤ M) : Inv M fs := ⟨h.s, h.k, h.f, Nat.le_trans h.n hm⟩
theorem Inv.mput {N : Nat} {fs : FS} (h : Inv N fs) {nm : List UInt8} {v : disk_file} (hn : badn nm = false) (hv : 0 ≤ v.safe ∧ v.safe ≤ v.bytes.length) : Inv (N + 1) (mput nm v fs) := by
 have hp := mins_perm (nm, v) (Eng.mdel nm fs)
 have hm : ∀ p ∈ Eng.mput nm v fs, p = (nm, v) ∨ p ∈ Eng.mdel nm fs := fun p hp' => List.mem_cons.1 (hp.mem_iff.1 hp')
 refine ⟨h.s.mput nm v, fun p hp' => ?_, fun p hp' => ?_, ?_⟩
 ·rcases hm p hp' with rfl | hp'
  ·exact hn
  ·exact (h.mdel nm).k p hp'
 ·rcases hm p hp' with rfl | hp'
  ·exact hv
  ·exact (h.mdel nm).f p hp'
 ·have h1 : (Eng.mput nm v fs).length = (Eng.mdel nm fs).length + 1 := hp.length_eq
  have := len_mdel fs nm
  have := h.n
  omega
theorem fileOf_inv {N : Nat} {fs : FS} (h : Inv N fs) (nm : List UInt8) : 0 ≤ (fileOf nm fs).safe ∧ (fileOf nm fs).safe ≤ (fileOf nm fs).bytes.length := by
 cases hf : mfind nm fs with
 | none => rw [fileOf_none hf]; simp
 | some x => rw [fileOf_some hf]; exact h.f _ (mfind_some hf)
theorem mput_last {acc : FS} {k : List UInt8} {v : disk_file} (hs : MSorted acc) (hk : ∀ q ∈ acc, Op.bytesLess q.1 k = true) : mput k v acc = acc ++ [(k, v)] := by
 have hd : mdel k acc = acc := by
  unfold mdel
  rw [List.filter_eq_self]
  intro q hq
  have : q.1 ≠ k := fun e => by have := hk q hq; rw [e, bl_irr] at this; cases this
  simp [this]
 refine (hs.mput k v).eq ?_ ?_
 ·unfold MSorted
  rw [List.pairwise_append]
  exact ⟨hs, List.pairwise_singleton _ _, fun a ha b hb => by rw [List.mem_singleton] at hb; subst hb; exact hk a ha⟩
 ·unfold mput
  rw [hd]
  exact (mins_perm (k, v) acc).trans (List.perm_append_singleton _ _).symm
theorem copy_fold (K : Nat) : ∀ (fs acc : FS), MSorted (acc ++ fs) → (∀ p ∈ fs, p.2.bytes.length ≤ 9000000000) → mfold (disk_Disk_Copy.l19 K) fs acc = some (acc ++ fs)
 | [], acc, _, _ => by simp [mfold]
 | p :: fs, acc, h, hb => by
  unfold mfold
  have e : disk_Disk_Copy.l19 K p acc = some (mput p.1 p.2 acc) := by
   show (slices_Clone_26 K p.2.bytes).bind (fun a2 => some (mput p.1 (⟨a2, p.2.safe⟩ : disk_file) acc)) = _
   rw [clone_eq (hb p (.head _))]
   rfl
  rw [e]
  simp only [Option.bind_some]
  obtain ⟨h1, h2, h3⟩ := List.pairwise_append.1 h
  have e2 : mput p.1 p.2 acc = acc ++ [p] := mput_last h1 fun q hq => h3 q hq p (.head _)
  rw [e2, copy_fold K fs (acc ++ [p]) (by simpa using h) fun q hq => hb q (.tail _ hq)]
  simp
theorem len_tot {fs : FS} {p : List UInt8 × disk_file} (h : p ∈ fs) : p.2.bytes.length ≤ tot fs := by
 induction fs with
 | nil => cases h
 | cons q fs ih =>
  rw [tot_cons]
  rcases List.mem_cons.1 h with rfl | h
  ·omega
  ·have := ih h; omega
theorem copy_eq {K N : Nat} {fs : FS} (h : Inv N fs) (ht : tot fs ≤ 4194304) (r : Int) (s f : Bool) (u : Int) : disk_Disk_Copy K r fs s f u = some fs := by
 unfold disk_Disk_Copy disk_Disk_ok
 simp only [Option.bind_some]
 rw [copy_fold K fs [] (by simpa using h.s) fun p hp => by have := len_tot hp; omega]
 rfl
theorem names_sorted {fs : FS} (h : MSorted fs) : ssrt (fs.map Prod.fst) = fs.map Prod.fst := by
 refine ssrt_self ?_
 rw [List.pairwise_map]
 exact h.imp fun hab => bl_asymm hab
theorem names_eq {K N : Nat} {fs : FS} (h : Inv N fs) (hN : N ≤ 1000000) (r : Int) (s f : Bool) (u : Int) : disk_Disk_Names K r fs s f u = some (fs.map Prod.fst) := by
 unfold disk_Disk_Names disk_Disk_ok maps_Keys_48
 simp only [Option.bind_some]
 rw [if_pos ⟨by have := h.n; omega, fun p hp => by have := h.k p hp; unfold badn at this; simp at this; omega⟩, names_sorted h.s]
theorem names_eq2 {K N : Nat} {fs : FS} (h : Inv N fs) (hN : N ≤ 1000000) (r : Int) (s f : Bool) (u : Int) : disk_Disk_Names_v2 K r fs s f u = some (fs.map Prod.fst) := by
 unfold disk_Disk_Names_v2 disk_Disk_ok maps_Keys_48
 simp only [Option.bind_some]
 rw [if_pos ⟨by have := h.n; omega, fun p hp => by have := h.k p hp; unfold badn at this; simp at this; omega⟩, names_sorted h.s]
def stay (keep : Int) (x : disk_file) : Int := x.safe + (if (x.bytes.length : Int) - x.safe < keep then (x.bytes.length : Int) - x.safe else keep)
def crashf (keep : Int) (x : disk_file) : disk_file := ⟨slc x.bytes 0 (stay keep x), stay keep x⟩
def crashed (keep : Int) (fs : FS) : FS := fs.map fun p => (p.1, crashf keep p.2)
theorem mput_at {A B : FS} {k : List UInt8} {v v' : disk_file} (hs : MSorted (A ++ (k, v) :: B)) : mput k v' (A ++ (k, v) :: B) = A ++ (k, v') :: B := by
 have hp : (A ++ (k, v) :: B).Perm ((k, v) :: (A ++ B)) := List.perm_middle
 refine (hs.mput k v').eq ?_ ?_
 ·unfold MSorted at hs ⊢
  rw [List.pairwise_append] at hs ⊢
  obtain ⟨h1, h2, h3⟩ := hs
  rw [List.pairwise_cons] at h2
  refine ⟨h1, List.pairwise_cons.2 ⟨fun b hb => h2.1 b hb, h2.2⟩, fun a ha b hb => ?_⟩
  rcases List.mem_cons.1 hb with rfl | hb
  ·exact h3 a ha (k, v) (.head _)
  ·exact h3 a ha b (.tail _ hb)
 ·exact ((mins_perm (k, v') _).trans ((mdel_perm (msn hs) hp rfl).cons _)).trans List.perm_middle.symm
theorem mfind_at {A B : FS} {k : List UInt8} {v : disk_file} (hs : MSorted (A ++ (k, v) :: B)) : mfind k (A ++ (k, v) :: B) = some v := mfind_mem (msn hs) (by simp)
theorem sorted_map {fs : FS} (h : MSorted fs) (g : disk_file → disk_file) : MSorted (fs.map fun p => (p.1, g p.2)) := by
 unfold MSorted
 rw [List.pairwise_map]
 exact h
theorem crash_loop (K : Nat) (keep : Int) (hk0 : 0 ≤ keep) : ∀ (B A : FS) (k : Nat), MSorted (A ++ B) → (∀ p ∈ B, 0 ≤ p.2.safe ∧ p.2.safe ≤ p.2.bytes.length ∧ p.2.bytes.length ≤ 9000000000) → A.length + B.length ≤ 1000000 → B.length < k →
  disk_Disk_Crash_v2.l23 K keep ((A ++ B).map Prod.fst) k (A.length : Int) (crashed keep A ++ B) = some (crashed keep (A ++ B))
 | [], A, k, hs, hB, hl, hk => by
  obtain ⟨j, rfl⟩ : ∃ j, k = j + 1 := ⟨k - 1, by simp at hk; omega⟩
  unfold disk_Disk_Crash_v2.l23
  rw [if_neg (by simp)]
  simp
 | (n, x) :: B, A, k, hs, hB, hl, hk => by
  simp only [List.length_cons] at hl hk
  obtain ⟨j, rfl⟩ : ∃ j, k = j + 1 := ⟨k - 1, by omega⟩
  unfold disk_Disk_Crash_v2.l23
  have hlen : ((A ++ (n, x) :: B).map Prod.fst).length = A.length + B.length + 1 := by simp; omega
  have hget : ((A ++ (n, x) :: B).map Prod.fst).getD (Int.toNat (A.length : Int)) [] = n := by
   simp [List.getD_eq_getElem?_getD]
  have hs2 : MSorted (crashed keep A ++ (n, x) :: B) := by
   unfold MSorted crashed at *
   rw [List.pairwise_append] at hs ⊢
   refine ⟨by rw [List.pairwise_map]; exact hs.1, hs.2.1, fun a ha b hb => ?_⟩
   obtain ⟨a', ha', rfl⟩ := List.mem_map.1 ha
   exact hs.2.2 a' ha' b hb
  have hfind : mfind n (crashed keep A ++ (n, x) :: B) = some x := mfind_at hs2
  rw [if_pos (by rw [hlen]; omega), if_pos (by rw [hlen]; omega), if_pos (by rw [hlen]; simp; omega)]
  simp only [hget, hfind, Option.getD_some]
  obtain ⟨h0, h1, h2⟩ := hB (n, x) (.head _)
  simp only at h0 h1 h2
  have e1 : IntKind.i64.wrap ((x.bytes.length : Int) - x.safe) = (x.bytes.length : Int) - x.safe := Eng.wrap_small (by omega) (by omega)
  have e2 : IntKind.i64.wrap (x.safe + (if (x.bytes.length : Int) - x.safe < keep then (x.bytes.length : Int) - x.safe else keep)) = stay keep x := by
   unfold stay
   split
   ·exact Eng.wrap_small (by omega) (by omega)
   ·exact Eng.wrap_small (by omega) (by omega)
  have e3 : 0 ≤ stay keep x ∧ stay keep x ≤ x.bytes.length := by unfold stay; split <;> omega
  rw [e1, e2, if_pos e3, clone_eq (by unfold slc; simp; omega)]
  simp only [Option.bind_some]
  rw [mput_at hs2]
  have e4 : IntKind.i64.wrap ((A.length : Int) + 1) = ((A ++ [(n, x)]).length : Int) := by
   rw [Eng.wrap_small (by omega) (by omega)]; simp
  have e5 : crashed keep A ++ (n, (⟨slc x.bytes 0 (stay keep x), stay keep x⟩ : disk_file)) :: B = crashed keep (A ++ [(n, x)]) ++ B := by
   simp [crashed, crashf]
  have e6 : A ++ (n, x) :: B = (A ++ [(n, x)]) ++ B := by simp
  rw [e4, e5, e6]
  exact crash_loop K keep hk0 B (A ++ [(n, x)]) j (by rw [← e6]; exact hs) (fun p hp => hB p (.tail _ hp)) (by simp; omega) (by omega)
theorem crash_eq {K N : Nat} {fs : FS} (h : Inv N fs) (hN : N < K) (hN2 : N ≤ 1000000) (ht : tot fs ≤ 4194304) (keep r : Int) (s f : Bool) (u : Int) :
  disk_Disk_Crash_v2 K keep r s f u fs = some (if keep < 0 then (2, s, f, u, fs) else (0, false, false, 0, crashed keep fs)) := by
 unfold disk_Disk_Crash_v2 disk_Disk_ok
 simp only [Option.bind_some]
 by_cases hk : keep < 0
 ·rw [if_pos hk, if_pos hk]
 ·rw [if_neg hk, if_neg hk, names_eq2 h hN2]
  simp only [Option.bind_some]
  have := crash_loop K keep (by omega) fs [] K (by simpa using h.s) (fun p hp => ⟨(h.f p hp).1, (h.f p hp).2, by have := len_tot hp; omega⟩) (by have := h.n; simp; omega) (by have := h.n; omega)
  simp only [List.nil_append, crashed, List.map_nil, List.length_nil] at this
  rw [show (0 : Int) = ((0 : Nat) : Int) from rfl, this]
  rfl
theorem stay_le {keep : Int} (hk : 0 ≤ keep) {x : disk_file} (h : 0 ≤ x.safe ∧ x.safe ≤ x.bytes.length) : 0 ≤ stay keep x ∧ stay keep x ≤ x.bytes.length := by unfold stay; split <;> omega
theorem crashf_len {keep : Int} (hk : 0 ≤ keep) {x : disk_file} (h : 0 ≤ x.safe ∧ x.safe ≤ x.bytes.length) : ((crashf keep x).bytes.length : Int) = stay keep x := by
 have := stay_le hk h
 unfold crashf slc
 simp
 omega
theorem Inv.crashed {N : Nat} {fs : FS} (h : Inv N fs) {keep : Int} (hk : 0 ≤ keep) : Inv N (crashed keep fs) := by
 refine ⟨sorted_map h.s _, fun p hp => ?_, fun p hp => ?_, by unfold Proofs.Ytegkigdobekgjaa.crashed; simpa using h.n⟩
 ·obtain ⟨q, hq, rfl⟩ := List.mem_map.1 hp
  exact h.k q hq
 ·obtain ⟨q, hq, rfl⟩ := List.mem_map.1 hp
  have h1 := crashf_len hk (h.f q hq)
  have h2 := stay_le hk (h.f q hq)
  show 0 ≤ (crashf keep q.2).safe ∧ (crashf keep q.2).safe ≤ ((crashf keep q.2).bytes.length : Int)
  have h3 : (crashf keep q.2).safe = stay keep q.2 := rfl
  omega
theorem tot_crashed {keep : Int} (hk : 0 ≤ keep) : ∀ {fs : FS}, (∀ p ∈ fs, 0 ≤ p.2.safe ∧ p.2.safe ≤ p.2.bytes.length) → tot (crashed keep fs) ≤ tot fs
 | [], _ => Nat.le_refl _
 | p :: fs, h => by
  have ih := tot_crashed hk (fs := fs) fun q hq => h q (.tail _ hq)
  have h1 := crashf_len hk (h p (.head _))
  have h2 := stay_le hk (h p (.head _))
  have e : crashed keep (p :: fs) = (p.1, crashf keep p.2) :: crashed keep fs := rfl
  rw [e, tot_cons, tot_cons]
  show (crashf keep p.2).bytes.length + _ ≤ _
  omega
end Go.Proofs.Ytegkigdobekgjaa
