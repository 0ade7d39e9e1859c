/- An abstract machine for Go code, sound for the model: calls, regions, loops, contracts; how arguments read; the end of a law. -/
import Derived.Test.YtjkfadlomchpjaaEngA
import Derived.ProofKit
import Derived.Deep.Slices
import Derived.DataElems
import Derived.SizedLaws
set_option linter.unusedVariables false
set_option linter.unusedSimpArgs false
namespace Go.Proofs.Ytjkfadlomchpjaa.Eng
open Go.RowKit (Below)

section
variable {Tag : Type} {T : Tag → Type} (V : Env T)
variable {P : Program} {n m : Nat} {Γ : Ent} {S : St T} {Z : Nat → Prop} {ρ : Nat → Option (Nat × Nat × Nat)} {a : Act} {w : World}

/-! #### values without names; slices of one's own lent as slices that nobody writes -/
def CV.clean : CV T → Bool
  | .ptr _ _ | .own _ _ | .pel _ _ _ _ | .mp _ => false
  | .fn _ f c => cleanL f && cleanL c
  | .ifc _ _ cs | .rol cs | .pcs cs _ => cleanL cs
  | _ => true
where cleanL : List (CV T) → Bool
  | [] => true
  | c :: cs => CV.clean c && cleanL cs

mutual
theorem CV.clean_names {c : CV T} (h : c.clean = true) (id : Nat) : c.names id = false := by
  cases c with
  | ptr => cases h
  | own => cases h
  | pel => cases h
  | mp => cases h
  | fn f x y =>
    simp only [CV.clean, Bool.and_eq_true] at h
    simp only [CV.names, CV.cleanL_names h.1 id, CV.cleanL_names h.2 id, Bool.or_self]
  | ifc t b cs => exact CV.cleanL_names (cs := cs) h id
  | rol cs => exact CV.cleanL_names (cs := cs) h id
  | pcs cs o => exact CV.cleanL_names (cs := cs) h id
  | lit v => rfl
  | str l => rfl
  | any => rfl
  | ro t xs => rfl
  | ron t xs => rfl
theorem CV.cleanL_names {cs : List (CV T)} (h : CV.clean.cleanL cs = true) (id : Nat) : CV.names.namesL id cs = false := by
  cases cs with
  | nil => rfl
  | cons c cs =>
    simp only [CV.clean.cleanL, Bool.and_eq_true] at h
    simp only [CV.names.namesL, CV.clean_names h.1 id, CV.cleanL_names h.2 id, Bool.or_self]
end

def AV.clean : AV T → Bool
  | .cv c => c.clean
  | .agg cs => CV.clean.cleanL cs
  | .tup vs => cleanL vs
  | .any => true
where cleanL : List (AV T) → Bool
  | [] => true
  | c :: cs => AV.clean c && cleanL cs

mutual
theorem AV.clean_names {c : AV T} (h : c.clean = true) (id : Nat) : c.names id = false := by
  cases c with
  | cv c => exact CV.clean_names (c := c) h id
  | agg cs => exact CV.cleanL_names (cs := cs) h id
  | tup vs => exact AV.cleanL_names (cs := vs) h id
  | any => rfl
theorem AV.cleanL_names {cs : List (AV T)} (h : AV.clean.cleanL cs = true) (id : Nat) : AV.names.namesL id cs = false := by
  cases cs with
  | nil => rfl
  | cons c cs =>
    simp only [AV.clean.cleanL, Bool.and_eq_true] at h
    simp only [AV.names.namesL, AV.clean_names h.1 id, AV.cleanL_names h.2 id, Bool.or_self]
end

def lend0 (E : Enc T) (H : List (Nat × Blk T)) (c : CV T) : CV T :=
  match c with
  | .own t id => match look id H with
    | some (.lst t' xs) => match E.dec t t' with | .isTrue _ => .ro t' xs | .isFalse _ => c
    | _ => c
  | c => c

def lend1 (E : Enc T) (H : List (Nat × Blk T)) (c : CV T) : CV T :=
  match c with
  | .ptr id off => match look id H with
    | some (.raw cs) => .pcs (cs.map (lend0 E H)) off
    | _ => c
  | c => lend0 E H c

def lendC (E : Enc T) (H : List (Nat × Blk T)) (c : CV T) : CV T :=
  match c with
  | .fn f a b => .fn f (a.map (lend1 E H)) (b.map (lend1 E H))
  | c => lend1 E H c

def lendP (H : List (Nat × Blk T)) : CV T → List Prop
  | _ => []

def lend (E : Enc T) (H : List (Nat × Blk T)) : AV T → AV T
  | .cv c => .cv (lendC E H c)
  | .agg cs => .agg (cs.map (lendC E H))
  | .tup vs => .tup (lendL vs)
  | .any => .any
where lendL : List (AV T) → List (AV T)
  | [] => []
  | v :: vs => lend E H v :: lendL vs

def lendA (H : List (Nat × Blk T)) : AV T → List Prop
  | .cv c => lendP H c
  | .agg cs => cs.flatMap (lendP H)
  | .tup vs => lendAL vs
  | .any => []
where lendAL : List (AV T) → List Prop
  | [] => []
  | v :: vs => lendA H v ++ lendAL vs

/-- Z, and one's own blocks that hold lists. -/
def ZL (Z : Nat → Prop) (H : List (Nat × Blk T)) (ρ : Nat → Option (Nat × Nat × Nat)) : Nat → Prop := fun b => Z b ∨ ∃ id blk c, look id H = some blk ∧ ρ id = some (b, c)

theorem lend0_sound {H : List (Nat × Blk T)} {c : CV T} {v : Value} (h : RC V.E w Z ρ c v) (hH : ∀ id blk, look id H = some blk → BR V.E w Z ρ blk (ρ id)) :
    RC V.E w (ZL Z H ρ) ρ (lend0 V.E H c) v := by
  have hm : RC V.E w (ZL Z H ρ) ρ c v := h.mono V.E (fun b hb => .inl hb) (fun _ _ => rfl) (fun _ _ => rfl)
  unfold lend0
  split
  · rename_i t id
    split
    · rename_i t' xs hl
      split
      · rename_i ht _
        subst ht
        have hB := hH _ _ hl
        rcases inv_own h with ⟨hr, rfl⟩ | ⟨b, cap, k, hr, rfl⟩
        · rw [hr] at hB
          have : xs = [] := hB
          subst this
          exact .pure (.ronil _ _ _)
        · rw [hr] at hB
          obtain ⟨hk, arr, g1, g2, g3, g4, g5⟩ := hB
          subst hk
          refine .pure (.ro t xs ⟨b, 0, none⟩ cap (fun i j => arr.getD (i * V.E.sz t + j) undef) (.inr ⟨id, _, _, hl, hr⟩) g2 (fun i x j c hx hc => ?_) (fun i x j c hx hc => ?_))
          all_goals
            have hj : j < V.E.sz t := by rw [← V.E.klen t x]; exact (List.getElem?_eq_some_iff.1 hc).1
            have hi : i < xs.length := (List.getElem?_eq_some_iff.1 hx).1
            have h1 : (i + 1) * V.E.sz t ≤ cap * V.E.sz t := Nat.mul_le_mul_right _ (by omega)
            rw [Nat.add_mul, Nat.one_mul] at h1
            have hlt : i * V.E.sz t + j < arr.size := by omega
          · rw [add_none, Nat.zero_add, cell_of_arr g1]
            simp [hlt, Array.getD]
          · exact (g5 i x j c _ hx hc (by simp [hlt, Array.getD])).mono V.E (fun b hb => .inl hb) (fun _ _ => rfl)
      · exact hm
    · exact hm
  · exact hm

theorem lend1_sound {H : List (Nat × Blk T)} {c : CV T} {v : Value} (h : RC V.E w Z ρ c v) (hH : ∀ id blk, look id H = some blk → BR V.E w Z ρ blk (ρ id)) :
    RC V.E w (ZL Z H ρ) ρ (lend1 V.E H c) v := by
  have hm : RC V.E w (ZL Z H ρ) ρ c v := h.mono V.E (fun b hb => .inl hb) (fun _ _ => rfl) (fun _ _ => rfl)
  unfold lend1
  split
  · rename_i id off
    split
    · rename_i cs hl
      have hB := hH _ _ hl
      cases h with
      | pure h => cases h
      | @ptr _ _ b n hr =>
        rw [hr] at hB
        obtain ⟨arr, e, g1, g2, g3⟩ := hB
        have key := RC.pcs (E := V.E) (w := w) (Z := ZL Z H ρ) (ρ := ρ) (cs.map (lend0 V.E H)) off ⟨b, 0, none⟩ (fun j => arr.getD j undef) (.inr ⟨id, _, _, hl, hr⟩) (fun j c hc => by
          have hj : j < arr.size := by
            rw [g2]
            have := (List.getElem?_eq_some_iff.1 hc).1
            simpa using this
          rw [add_none, Nat.zero_add, cell_of_arr g1]
          simp [hj, Array.getD]) (fun j c hc => by
          simp only [List.getElem?_map, Option.map_eq_some_iff] at hc
          obtain ⟨d, hd, rfl⟩ := hc
          have hj : j < arr.size := by rw [g2]; exact (List.getElem?_eq_some_iff.1 hd).1
          refine lend0_sound V (g3 j d (arr.getD j undef) hd ?_) hH
          simp [hj, Array.getD])
        rw [add_none, Nat.zero_add] at key
        exact key
    · exact hm
  · exact lend0_sound V h hH

theorem lendC_sound {H : List (Nat × Blk T)} {c : CV T} {v : Value} (h : RC V.E w Z ρ c v) (hp : All (lendP H c)) (hH : ∀ id blk, look id H = some blk → BR V.E w Z ρ blk (ρ id)) :
    RC V.E w (ZL Z H ρ) ρ (lendC V.E H c) v := by
  unfold lendC
  split
  · rename_i f a b
    cases h with
    | pure h => cases h
    | fn h1 h2 h3 h4 =>
      refine .fn (by simpa using h1) (by simpa using h2) (fun i c v hc hv => ?_) (fun i c v hc hv => ?_)
      · simp only [List.getElem?_map, Option.map_eq_some_iff] at hc
        obtain ⟨d, hd, rfl⟩ := hc
        exact lend1_sound V (h3 i d v hd hv) hH
      · simp only [List.getElem?_map, Option.map_eq_some_iff] at hc
        obtain ⟨d, hd, rfl⟩ := hc
        exact lend1_sound V (h4 i d v hd hv) hH
  · exact lend1_sound V h hH

mutual
theorem lend_sound {H : List (Nat × Blk T)} {x : AV T} {v : Value} (h : RA V.E w Z ρ x v) (hp : All (lendA H x)) (hH : ∀ id blk, look id H = some blk → BR V.E w Z ρ blk (ρ id)) :
    RA V.E w (ZL Z H ρ) ρ (lend V.E H x) v := by
  cases x with
  | cv c => cases h with | cv h => exact .cv (lendC_sound V h hp hH)
  | agg cs =>
    cases h with | agg h1 h2 =>
    refine .agg (by simpa using h1) fun i c u hc hu => ?_
    simp only [List.getElem?_map, Option.map_eq_some_iff] at hc
    obtain ⟨d, hd, rfl⟩ := hc
    refine lendC_sound V (h2 i d u hd hu) (All.of_mem fun p hp' => hp.mem p ?_) hH
    simp only [lendA, List.mem_flatMap]
    exact ⟨d, List.mem_of_getElem? hd, hp'⟩
  | tup vs =>
    cases h with | tup h1 h2 =>
    have := lendL_sound (vs := vs) hp hH
    refine .tup (by rw [h1, this.1]) fun i c u hc hu => ?_
    obtain ⟨d, hd, hr⟩ := this.2 i c hc
    exact hr u (h2 i d u hd hu)
  | any => exact .any
theorem lendL_sound {H : List (Nat × Blk T)} {vs : List (AV T)} (hp : All (lendA.lendAL H vs)) (hH : ∀ id blk, look id H = some blk → BR V.E w Z ρ blk (ρ id)) :
    vs.length = (lend.lendL V.E H vs).length ∧ ∀ (i : Nat) c, (lend.lendL V.E H vs)[i]? = some c → ∃ d, vs[i]? = some d ∧ ∀ u, RA V.E w Z ρ d u → RA V.E w (ZL Z H ρ) ρ c u := by
  cases vs with
  | nil => exact ⟨rfl, fun i c hc => by simp [lend.lendL] at hc⟩
  | cons v vs =>
    simp only [lendA.lendAL] at hp
    obtain ⟨h1, h2⟩ := hp.append
    obtain ⟨e1, e2⟩ := lendL_sound (vs := vs) h2 hH
    refine ⟨by simp [lend.lendL, e1], fun i c hc => ?_⟩
    cases i with
    | zero =>
      simp [lend.lendL] at hc
      subst hc
      exact ⟨v, rfl, fun u hu => lend_sound hu h1 hH⟩
    | succ i =>
      simp [lend.lendL] at hc
      simpa using e2 i c hc
end

theorem lend1_clean {E : Enc T} {H : List (Nat × Blk T)} {c : CV T} (h : c.clean = true) : lend1 E H c = c := by
  cases c <;> first | rfl | cases h

theorem lend1s_clean {E : Enc T} {H : List (Nat × Blk T)} : ∀ {cs : List (CV T)}, CV.clean.cleanL cs = true → cs.map (lend1 E H) = cs
  | [], _ => rfl
  | c :: cs, h => by
    simp only [CV.clean.cleanL, Bool.and_eq_true] at h
    simp only [List.map_cons, lend1_clean h.1, lend1s_clean h.2]

theorem lendC_clean {E : Enc T} {H : List (Nat × Blk T)} {c : CV T} (h : c.clean = true) : lendC E H c = c := by
  cases c with
  | fn f a b =>
    simp only [CV.clean, Bool.and_eq_true] at h
    simp only [lendC, lend1s_clean h.1, lend1s_clean h.2]
  | _ => exact lend1_clean (E := E) (H := H) h

theorem lendCs_clean {E : Enc T} {H : List (Nat × Blk T)} : ∀ {cs : List (CV T)}, CV.clean.cleanL cs = true → cs.map (lendC E H) = cs
  | [], _ => rfl
  | c :: cs, h => by
    simp only [CV.clean.cleanL, Bool.and_eq_true] at h
    simp only [List.map_cons, lendC_clean h.1, lendCs_clean h.2]

mutual
theorem lend_clean {E : Enc T} {H : List (Nat × Blk T)} {x : AV T} (h : x.clean = true) : lend E H x = x := by
  cases x with
  | cv c => simp only [lend, lendC_clean (c := c) h]
  | agg cs => simp only [lend, lendCs_clean (cs := cs) h]
  | tup vs => simp only [lend, lendL_clean (vs := vs) h]
  | any => rfl
theorem lendL_clean {E : Enc T} {H : List (Nat × Blk T)} {vs : List (AV T)} (h : AV.clean.cleanL vs = true) : lend.lendL E H vs = vs := by
  cases vs with
  | nil => rfl
  | cons v vs =>
    simp only [AV.clean.cleanL, Bool.and_eq_true] at h
    simp only [lend.lendL, lend_clean h.1, lendL_clean h.2]
end

theorem lendMap_clean {E : Enc T} {H : List (Nat × Blk T)} : ∀ {vs : List (AV T)}, AV.clean.cleanL vs = true → vs.map (lend E H) = vs
  | [], _ => rfl
  | v :: vs, h => by
    simp only [AV.clean.cleanL, Bool.and_eq_true] at h
    simp only [List.map_cons, lend_clean h.1, lendMap_clean h.2]

/-- Values that hold no addresses. -/
def CV.flat : CV T → Bool
  | .lit _ | .str _ => true
  | _ => false

def AV.flat : AV T → Bool
  | .cv c => c.flat
  | .agg cs => cs.all CV.flat
  | .tup vs => flatL vs
  | .any => false
where flatL : List (AV T) → Bool
  | [] => true
  | c :: cs => AV.flat c && flatL cs

theorem CV.flat_rc {w' : World} {Z' : Nat → Prop} {ρ' : Nat → Option (Nat × Nat × Nat)} {c : CV T} {v : Value} (hf : c.flat = true) (h : RC V.E w Z ρ c v) : RC V.E w' Z' ρ' c v := by
  cases h with
  | pure h =>
    cases h with
    | lit h => exact .pure (.lit h)
    | str l => exact .pure (.str l)
    | _ => cases hf
  | _ => cases hf

mutual
theorem AV.flat_ra {w' : World} {Z' : Nat → Prop} {ρ' : Nat → Option (Nat × Nat × Nat)} {x : AV T} {v : Value} (hf : x.flat = true) (h : RA V.E w Z ρ x v) : RA V.E w' Z' ρ' x v := by
  cases x with
  | cv c => cases h with | cv h => exact .cv (CV.flat_rc V hf h)
  | agg cs =>
    cases h with | agg h1 h2 =>
    exact .agg h1 fun i c u hc hu => CV.flat_rc V (List.all_eq_true.1 hf c (List.mem_of_getElem? hc)) (h2 i c u hc hu)
  | tup vs =>
    cases h with | tup h1 h2 =>
    exact .tup h1 fun i c u hc hu => AV.flatL_ra (vs := vs) hf i c u hc (h2 i c u hc hu)
  | any => exact .any
theorem AV.flatL_ra {w' : World} {Z' : Nat → Prop} {ρ' : Nat → Option (Nat × Nat × Nat)} {vs : List (AV T)} (hf : AV.flat.flatL vs = true) (i : Nat) (c : AV T) (u : Value) (hc : vs[i]? = some c) (h : RA V.E w Z ρ c u) : RA V.E w' Z' ρ' c u := by
  cases vs with
  | nil => simp at hc
  | cons v vs =>
    simp only [AV.flat.flatL, Bool.and_eq_true] at hf
    cases i with
    | zero => simp at hc; subst hc; exact AV.flat_ra hf.1 h
    | succ i => simp at hc; exact AV.flatL_ra (vs := vs) hf.2 i c u hc h
end

/-! #### calls that change nothing -/
def callable (P : Program) (f : FuncId) : Bool :=
  match P.funcs[f]? with
  | some fn => !(fn.name == "runtime.NumGoroutine") && fn.body.isSome
  | none => false

def PCall (P : Program) (f : FuncId) (args : List (AV T)) (r : AV T) : Prop :=
  callable P f = true ∧ ∀ (w : World) (Z : Nat → Prop) (vs : Array Value), (∀ b, Z b → b < w.heap.size) → vs.size = args.length →
    (∀ (i : Nat) x v, args[i]? = some x → vs[i]? = some v → RA V.E w Z (fun _ => none) x v) →
    Calls P f vs w fun e w' => ∃ v Z', e = .returned v ∧ Onto w w' Z Z' ∧ RA V.E w' Z' (fun _ => none) r v

theorem run_callFunc {f : FuncId} (h : callable P f = true) (args : Array Value) : (callFunc f args).run P w = .ok (.enter f args) w := by
  unfold callable at h
  split at h
  · rename_i fn hf
    simp only [Bool.and_eq_true, Bool.not_eq_true'] at h
    have hb : fn.body.isNone = false := by cases hfb : fn.body <;> simp_all
    unfold callFunc
    simp only [Sem.run_bind, program, Sem.run, Result.andThen, hf, h.1, Bool.false_eq_true, if_false, hb]
    rfl
  · cases h

theorem Abs.claim (h : Abs V n m Γ S Z ρ a w) {id : Nat} (hm : m ≤ id) (hn : S.named id = false) {bc : Option (Nat × Nat × Nat)}
    (hbc : ∀ b c, bc = some (b, c) → b < w.heap.size ∧ ¬ Z b ∧ (Γ.w0.heap.size ≤ b ∨ Γ.D b) ∧ ∀ i blk c', i ≠ id → look i S.heap = some blk → ρ i = some (b, c') → False) {B : Blk T} (hB : BR V.E w Z (updO ρ id bc) B bc) :
    Abs V n m Γ (S.new id B) Z (updO ρ id bc) a w := by
  have hρ : ∀ i, i ≠ id → updO ρ id bc i = ρ i := fun i hi => by unfold updO; rw [if_neg hi]
  have hlook : ∀ i blk, look i (S.new id B).heap = some blk → (i = id ∧ blk = B) ∨ (i ≠ id ∧ look i S.heap = some blk) := fun i blk hl => by
    simp only [St.new] at hl
    rw [look_cons] at hl
    by_cases hi : i = id
    · rw [if_pos hi] at hl; cases hl; exact .inl ⟨hi, rfl⟩
    · rw [if_neg hi, look_del, if_neg hi] at hl; exact .inr ⟨hi, hl⟩
  exact {
    defers := h.defers
    size := h.size
    tmps := fun t v hv => (h.tmps t v hv).mono V.E (fun _ h => h) (fun _ _ => rfl) fun i hi => hρ i fun e => by
      subst e; rw [named_tmps hn hv] at hi; cases hi
    os := h.os
    tape := h.tape
    output := h.output
    hsize := h.hsize
    old := h.old
    stm := h.stm
    st := fun p hp => by
      rw [← h.st p hp]
      exact hρ p.1 fun e => by have := h.stm p hp; omega
    Z0 := h.Z0
    Zold := h.Zold
    Zlt := h.Zlt
    own := fun i blk b1 c1 hl hr => by
      rcases hlook i blk hl with ⟨rfl, rfl⟩ | ⟨hi, hl'⟩
      · unfold updO at hr
        rw [if_pos rfl] at hr
        obtain ⟨h1, h2, h3, _⟩ := hbc b1 c1 hr
        exact ⟨h1, h2, h3⟩
      · rw [hρ i hi] at hr
        exact h.own i blk b1 c1 hl' hr
    inj := fun i i' blk blk' b1 c1 c2 hl hl' hr hr' => by
      rcases hlook i blk hl with ⟨e, rfl⟩ | ⟨hi, hl1⟩
      · rcases hlook i' blk' hl' with ⟨e', rfl⟩ | ⟨hi', hl1'⟩
        · exact e.trans e'.symm
        · exfalso
          subst e
          unfold updO at hr
          rw [if_pos rfl] at hr
          rw [hρ i' hi'] at hr'
          exact (hbc b1 c1 hr).2.2.2 i' blk' c2 hi' hl1' hr'
      · rcases hlook i' blk' hl' with ⟨e', rfl⟩ | ⟨hi', hl1'⟩
        · exfalso
          subst e'
          unfold updO at hr'
          rw [if_pos rfl] at hr'
          rw [hρ i hi] at hr
          exact (hbc b1 c2 hr').2.2.2 i blk c1 hi hl1 hr
        · rw [hρ i hi] at hr
          rw [hρ i' hi'] at hr'
          exact h.inj i i' blk blk' b1 c1 c2 hl1 hl1' hr hr'
    blk := fun i blk hl => by
      rcases hlook i blk hl with ⟨rfl, rfl⟩ | ⟨hi, hl'⟩
      · unfold updO
        rw [if_pos rfl]
        exact hB
      · rw [hρ i hi]
        refine BR.mono (fun _ h => h) (fun _ _ => rfl) (fun b1 c1 hbc' => rfl) (h.blk i blk hl') fun j hj => hρ j fun e => ?_
        subst e; rw [named_heap hn hl'] at hj; cases hj }

/-- A call that returns a slice of one's own (or nil). -/
def FCall (P : Program) (f : FuncId) (args : List (AV T)) (t : Tag) (xs : List (T t)) : Prop :=
  callable P f = true ∧ ∀ (w : World) (Z : Nat → Prop) (vs : Array Value), (∀ b, Z b → b < w.heap.size) → vs.size = args.length →
    (∀ (i : Nat) x v, args[i]? = some x → vs[i]? = some v → RA V.E w Z (fun _ => none) x v) →
    Calls P f vs w fun e w' => ∃ v Z', e = .returned v ∧ Onto w w' Z Z' ∧ ((v = .slice none 0 0 ∧ xs = []) ∨
      ∃ b cap, w.heap.size ≤ b ∧ b < w'.heap.size ∧ ¬ Z' b ∧ v = .slice (some ⟨b, 0, none⟩) xs.length cap ∧ BR V.E w' Z' (fun _ => none) (.lst t xs) (some (b, cap, xs.length)))

def getAs (get : Operand → Option (AV T)) : List Operand → Option (List (AV T))
  | [] => some []
  | x :: xs => match get x, getAs get xs with | some v, some vs => some (v :: vs) | _, _ => none

theorem getAs_sound {E : Enc T} {get : Operand → Option (AV T)} (hg : ∀ x v, get x = some v → RA E w Z ρ v (a.eval x)) : ∀ (xs : List Operand) (vs : List (AV T)), getAs get xs = some vs →
    xs.length = vs.length ∧ ∀ (i : Nat) c u, vs[i]? = some c → (xs.map a.eval)[i]? = some u → RA E w Z ρ c u
  | [], vs, h => by cases h; exact ⟨rfl, fun i c u hc => by simp at hc⟩
  | x :: xs, vs, h => by
    unfold getAs at h
    split at h
    · rename_i v vs' hv hvs
      cases h
      obtain ⟨h1, h2⟩ := getAs_sound hg xs vs' hvs
      refine ⟨by simp [h1], fun i d u hd hu => ?_⟩
      cases i with
      | zero => simp at hd hu; subst hd; subst hu; exact hg _ _ hv
      | succ i => exact h2 i d u (by simpa using hd) (by simpa using hu)
    · cases h

def evCall (P : Program) (S : St T) (r : AV T) (o : Oper) : Option (List Prop) :=
  match o.op with
  | .call c => match c.callee with
    | .value f => match S.get f, getAs S.get c.args.toList with
      | some (.cv (.fn (.func fid) fs caps)), some args =>
        let all := fs.map AV.cv ++ (args ++ caps.map AV.cv)
        let all' := all.map (lend V.E S.heap)
        bif AV.clean.cleanL all' && r.clean && (AV.clean.cleanL all || r.flat) then some [PCall V P fid all' r, All (all.flatMap (lendA S.heap))] else none
      | _, _ => none
    | _ => none
  | _ => none

theorem evCall_sound {r : AV T} {o : Oper} {cs : List Prop} (h : evCall V P S r o = some cs) (hcs : All cs) (ha : Abs V n m Γ S Z ρ a w) {next : Act → World → Prop} {Q : Exit → Act → World → Prop}
    (hK : ∀ v w' Z', Onto w w' Z Z' → RA V.E w' Z' ρ r v → next (a.put o.dst v) w') : o.wp P a w next Q := by
  unfold evCall at h
  split at h
  · rename_i c hop
    split at h
    · rename_i f hcal
      split at h
      · rename_i fid fs caps args hf hargs
        dsimp only at h
        generalize hall : fs.map AV.cv ++ (args ++ caps.map AV.cv) = all at h
        cases hb : (AV.clean.cleanL (all.map (lend V.E S.heap)) && r.clean && (AV.clean.cleanL all || r.flat)) with
        | false => rw [hb] at h; cases h
        | true =>
          rw [hb] at h
          cases h
          simp only [Bool.and_eq_true, Bool.or_eq_true] at hb
          obtain ⟨⟨hb1, hb2⟩, hb3⟩ := hb
          obtain ⟨hP, hl⟩ := hcs
          replace hl : All (all.flatMap (lendA S.heap)) := hl
          have hfv := ha.get f _ hf
          generalize heval : a.eval f = fv at hfv
          cases hfv with | cv hfv =>
          cases hfv with
          | pure hfv => cases hfv
          | @fn _ _ _ fvs cvs h1 h2 h3 h4 =>
            obtain ⟨g1, g2⟩ := getAs_sound (w := w) (Z := Z) (ρ := ρ) (a := a) ha.get _ _ hargs
            have hsz : (fvs ++ (c.args.map a.eval ++ cvs)).size = all.length := by
              rw [← hall]; simp at g1; simp [h1, h2, g1]
            have hrel : ∀ (i : Nat) x v, all[i]? = some x → (fvs ++ (c.args.map a.eval ++ cvs))[i]? = some v → RA V.E w Z ρ x v := by
              intro i x v hx hv
              rw [← hall] at hx
              by_cases hi : i < fs.length
              · rw [List.getElem?_append_left (by simpa using hi)] at hx
                rw [Array.getElem?_append_left (by omega)] at hv
                simp only [List.getElem?_map, Option.map_eq_some_iff] at hx
                obtain ⟨d, hd, rfl⟩ := hx
                exact .cv (h3 i d v hd hv)
              · rw [List.getElem?_append_right (by simp; omega)] at hx
                rw [Array.getElem?_append_right (by omega)] at hv
                simp only [List.length_map] at hx
                rw [h1] at hv
                have hal : c.args.size = args.length := by simpa using g1
                by_cases hi2 : i - fs.length < args.length
                · rw [List.getElem?_append_left hi2] at hx
                  rw [Array.getElem?_append_left (by simp; omega)] at hv
                  refine g2 _ x v hx ?_
                  rw [← Array.toList_map, Array.getElem?_toList]; exact hv
                · rw [List.getElem?_append_right (by omega)] at hx
                  rw [Array.getElem?_append_right (by simp; omega)] at hv
                  simp only [List.getElem?_map, Option.map_eq_some_iff] at hx
                  obtain ⟨d, hd, rfl⟩ := hx
                  refine .cv (h4 _ d v hd ?_)
                  rw [← hv]; congr 1; simp; omega
            have hrun : (execOp a.eval o).run P w = .ok (.enter fid (fvs ++ (c.args.map a.eval ++ cvs))) w := by
              unfold execOp
              rw [hop]
              simp only [resolve, hcal, heval, Deferred.ofValue, Sem.run_bind, Sem.run_pure, Result.andThen, invoke]
              rw [run_callFunc hP.1, Array.append_assoc]
            have hlall : ∀ (i : Nat) x v, (all.map (lend V.E S.heap))[i]? = some x → (fvs ++ (c.args.map a.eval ++ cvs))[i]? = some v → RA V.E w (ZL Z S.heap ρ) (fun _ => none) x v := by
              intro i x v hx hv
              simp only [List.getElem?_map, Option.map_eq_some_iff] at hx
              obtain ⟨d, hd, rfl⟩ := hx
              have hd' := lend_sound V (hrel i d v hd hv) (All.of_mem fun p hp => hl.mem p (List.mem_flatMap.2 ⟨d, List.mem_of_getElem? hd, hp⟩)) ha.blk
              refine hd'.mono V.E (fun _ h => h) (fun _ _ => rfl) fun id hid => ?_
              have := AV.namesL_false (AV.cleanL_names hb1 id) (i := i) (c := lend V.E S.heap d) (by simp [hd])
              rw [this] at hid; cases hid
            have hZL : ∀ b, ZL Z S.heap ρ b → b < w.heap.size := fun b hb => by
              rcases hb with hb | ⟨id, blk, c, e1, e2⟩
              · exact ha.Zlt b hb
              · exact (ha.own id blk b c e1 e2).1
            unfold Oper.wp
            rw [hrun]
            show Calls P fid _ w _
            rcases hb3 with hclean | hflat
            · -- nothing is lent
              have hsame : ∀ (i : Nat) x v, all[i]? = some x → (fvs ++ (c.args.map a.eval ++ cvs))[i]? = some v → RA V.E w Z (fun _ => none) x v := by
                intro i x v hx hv
                refine (hrel i x v hx hv).mono V.E (fun _ h => h) (fun _ _ => rfl) fun id hid => ?_
                rw [AV.namesL_false (AV.cleanL_names hclean id) hx] at hid; cases hid
              have hmap : all.map (lend V.E S.heap) = all := lendMap_clean hclean
              rw [hmap] at hP
              refine (hP.2 w Z _ ha.Zlt hsz hsame).mono fun e w' he => ?_
              obtain ⟨v, Z', rfl, ho, hr⟩ := he
              exact hK v w' Z' ho (hr.mono V.E (fun _ h => h) (fun _ _ => rfl) fun id hid => by rw [AV.clean_names hb2 id] at hid; cases hid)
            · refine (hP.2 w (ZL Z S.heap ρ) _ hZL (by simpa using hsz) hlall).mono fun e w' he => ?_
              obtain ⟨v, Z', rfl, ho, hr⟩ := he
              exact hK v w' Z ⟨ho.below, fun _ h => h, fun b hb => .inl hb⟩ (AV.flat_ra V hflat hr)
      · cases h
    · cases h
  · cases h


def evFCall (P : Program) (S : St T) (t : Tag) (xs : List (T t)) (o : Oper) : Option (List Prop) :=
  match o.op with
  | .call c => match c.callee with
    | .value f => match S.get f, getAs S.get c.args.toList with
      | some (.cv (.fn (.func fid) fs caps)), some args =>
        let all := fs.map AV.cv ++ (args ++ caps.map AV.cv)
        bif AV.clean.cleanL all then some [FCall V P fid all t xs] else none
      | _, _ => none
    | _ => none
  | _ => none

theorem evFCall_sound {t : Tag} {xs : List (T t)} {o : Oper} {cs : List Prop} (h : evFCall V P S t xs o = some cs) (hcs : All cs) (ha : Abs V n m Γ S Z ρ a w) {next : Act → World → Prop} {Q : Exit → Act → World → Prop}
    (hK : ∀ v w' Z', Onto w w' Z Z' → ((v = .slice none 0 0 ∧ xs = []) ∨
      ∃ b cap, w.heap.size ≤ b ∧ b < w'.heap.size ∧ ¬ Z' b ∧ v = .slice (some ⟨b, 0, none⟩) xs.length cap ∧ BR V.E w' Z' (fun _ => none) (.lst t xs) (some (b, cap, xs.length))) → next (a.put o.dst v) w') : o.wp P a w next Q := by
  unfold evFCall at h
  split at h
  · rename_i c hop
    split at h
    · rename_i f hcal
      split at h
      · rename_i fid fs caps args hf hargs
        dsimp only at h
        generalize hall : fs.map AV.cv ++ (args ++ caps.map AV.cv) = all at h
        cases hclean : (AV.clean.cleanL all) with
        | false => rw [hclean] at h; cases h
        | true =>
          rw [hclean] at h
          cases h
          have hP : FCall V P fid all t xs := hcs
          have hfv := ha.get f _ hf
          generalize heval : a.eval f = fv at hfv
          cases hfv with | cv hfv =>
          cases hfv with
          | pure hfv => cases hfv
          | @fn _ _ _ fvs cvs h1 h2 h3 h4 =>
            obtain ⟨g1, g2⟩ := getAs_sound (w := w) (Z := Z) (ρ := ρ) (a := a) ha.get _ _ hargs
            have hsz : (fvs ++ (c.args.map a.eval ++ cvs)).size = all.length := by
              rw [← hall]; simp at g1; simp [h1, h2, g1]
            have hrel : ∀ (i : Nat) x v, all[i]? = some x → (fvs ++ (c.args.map a.eval ++ cvs))[i]? = some v → RA V.E w Z ρ x v := by
              intro i x v hx hv
              rw [← hall] at hx
              by_cases hi : i < fs.length
              · rw [List.getElem?_append_left (by simpa using hi)] at hx
                rw [Array.getElem?_append_left (by omega)] at hv
                simp only [List.getElem?_map, Option.map_eq_some_iff] at hx
                obtain ⟨d, hd, rfl⟩ := hx
                exact .cv (h3 i d v hd hv)
              · rw [List.getElem?_append_right (by simp; omega)] at hx
                rw [Array.getElem?_append_right (by omega)] at hv
                simp only [List.length_map] at hx
                rw [h1] at hv
                have hal : c.args.size = args.length := by simpa using g1
                by_cases hi2 : i - fs.length < args.length
                · rw [List.getElem?_append_left hi2] at hx
                  rw [Array.getElem?_append_left (by simp; omega)] at hv
                  refine g2 _ x v hx ?_
                  rw [← Array.toList_map, Array.getElem?_toList]; exact hv
                · rw [List.getElem?_append_right (by omega)] at hx
                  rw [Array.getElem?_append_right (by simp; omega)] at hv
                  simp only [List.getElem?_map, Option.map_eq_some_iff] at hx
                  obtain ⟨d, hd, rfl⟩ := hx
                  refine .cv (h4 _ d v hd ?_)
                  rw [← hv]; congr 1; simp; omega
            have hrun : (execOp a.eval o).run P w = .ok (.enter fid (fvs ++ (c.args.map a.eval ++ cvs))) w := by
              unfold execOp
              rw [hop]
              simp only [resolve, hcal, heval, Deferred.ofValue, Sem.run_bind, Sem.run_pure, Result.andThen, invoke]
              rw [run_callFunc hP.1, Array.append_assoc]
            unfold Oper.wp
            rw [hrun]
            show Calls P fid _ w _
            have hsame : ∀ (i : Nat) x v, all[i]? = some x → (fvs ++ (c.args.map a.eval ++ cvs))[i]? = some v → RA V.E w Z (fun _ => none) x v := by
              intro i x v hx hv
              refine (hrel i x v hx hv).mono V.E (fun _ h => h) (fun _ _ => rfl) fun id hid => ?_
              rw [AV.namesL_false (AV.cleanL_names hclean id) hx] at hid; cases hid
            refine (hP.2 w Z _ ha.Zlt hsz hsame).mono fun e w' he => ?_
            obtain ⟨v, Z', rfl, ho, hr⟩ := he
            exact hK v w' Z' ho hr
      · cases h
    · cases h
  · cases h

theorem FCall.pcall {f : FuncId} {args : List (AV T)} {t : Tag} {xs : List (T t)} (h : FCall V P f args t xs) : PCall V P f args (.cv (.ro t xs)) := by
  refine ⟨h.1, fun w Z vs hZ hsz hargs => (h.2 w Z vs hZ hsz hargs).mono fun e w' he => ?_⟩
  obtain ⟨v, Z', rfl, ho, hr⟩ := he
  rcases hr with ⟨rfl, rfl⟩ | ⟨b, cap, h1, h2, h3, rfl, hB⟩
  · exact ⟨_, Z', rfl, ho, .cv (.pure (.ronil _ _ _))⟩
  · refine ⟨_, fun k => Z' k ∨ k = b, rfl, ⟨ho.below, fun k hk => .inl (ho.sub k hk), fun k hk => ?_⟩, ?_⟩
    · rcases hk with hk | rfl
      · exact ho.fresh k hk
      · exact .inr ⟨h1, h2⟩
    · obtain ⟨_, arr, hheap, hcap, hmax, hs, hrel⟩ := hB
      refine .cv (.pure (.ro t xs ⟨b, 0, none⟩ cap (fun i j => arr[i * V.E.sz t + j]!) (.inr rfl) hcap (fun i x j c hx hc => ?_) fun i x j c hx hc => ?_))
      all_goals
        have hj : j < V.E.sz t := by rw [← V.E.klen t x]; exact (List.getElem?_eq_some_iff.1 hc).1
        have hi : i < xs.length := (List.getElem?_eq_some_iff.1 hx).1
        have hlt : i * V.E.sz t + j < arr.size := by
          rw [hs]
          have : (i + 1) * V.E.sz t ≤ cap * V.E.sz t := Nat.mul_le_mul_right _ (by omega)
          rw [Nat.add_mul, Nat.one_mul] at this
          omega
      · rw [add_none, Nat.zero_add, cell_of_arr hheap]; simp [hlt]
      · exact (hrel i x j c _ hx hc (by simp [hlt])).mono V.E (fun _ h => .inl h) (fun _ _ => rfl)


/-! #### nil slices and slices known not to be nil, where a slice that nobody writes is asked for -/
def coC (c d : CV T) : CV T :=
  match d with
  | .ro t _ => (match c with
    | .lit (.slice none 0 0) => .ro t []
    | .ron t xs => .ro t xs
    | c => c)
  | _ => c
def coL : List (CV T) → List (CV T) → List (CV T)
  | c :: cs, d :: ds => coC c d :: coL cs ds
  | cs, _ => cs
def coA : AV T → AV T → AV T
  | .cv c, .cv d => .cv (coC c d)
  | .agg cs, .agg ds => .agg (coL cs ds)
  | .tup vs, .tup us => .tup (coAL vs us)
  | v, _ => v
where coAL : List (AV T) → List (AV T) → List (AV T)
  | c :: cs, d :: ds => coA c d :: coAL cs ds
  | cs, _ => cs

theorem coC_sound {E : Enc T} {c d : CV T} {v : Value} (h : RC E w Z ρ c v) : RC E w Z ρ (coC c d) v := by
  unfold coC
  split
  · split
    · cases h with
      | pure h => cases h with
        | lit => exact .pure (.ronil _ _ _)
    · cases h with
      | pure h => cases h
      | ron h => exact .pure h
    · exact h
  · exact h

theorem coL_sound {E : Enc T} : ∀ (cs ds : List (CV T)), (coL cs ds).length = cs.length ∧ ∀ (i : Nat) c v, (coL cs ds)[i]? = some c → (∀ c', cs[i]? = some c' → RC E w Z ρ c' v) → RC E w Z ρ c v
  | [], ds => by unfold coL; exact ⟨rfl, fun i c v hc => by simp at hc⟩
  | c :: cs, [] => by unfold coL; exact ⟨rfl, fun i d v hc h => h d hc⟩
  | c :: cs, d :: ds => by
    unfold coL
    obtain ⟨h1, h2⟩ := coL_sound (E := E) cs ds
    refine ⟨by simp [h1], fun i e v he h => ?_⟩
    cases i with
    | zero => simp at he; subst he; exact coC_sound (h c rfl)
    | succ i => exact h2 i e v (by simpa using he) fun c' hc' => h c' (by simpa using hc')

mutual
theorem coA_sound {E : Enc T} {x y : AV T} {v : Value} (h : RA E w Z ρ x v) : RA E w Z ρ (coA x y) v := by
  cases x with
  | cv c => cases y with
    | cv d => unfold coA; cases h with | cv h => exact .cv (coC_sound h)
    | _ => exact h
  | agg cs => cases y with
    | agg ds =>
      unfold coA
      cases h with | agg h1 h2 =>
      obtain ⟨g1, g2⟩ := coL_sound (E := E) (w := w) (Z := Z) (ρ := ρ) cs ds
      exact .agg (h1.trans g1.symm) fun i c v hc hv => g2 i c v hc fun c' hc' => h2 i c' v hc' hv
    | _ => exact h
  | tup vs => cases y with
    | tup us =>
      unfold coA
      cases h with | tup h1 h2 =>
      obtain ⟨g1, g2⟩ := coAL_sound (E := E) vs us
      exact .tup (h1.trans g1.symm) fun i c v hc hv => g2 i c v hc fun c' hc' => h2 i c' v hc' hv
    | _ => exact h
  | any => cases y <;> exact h
theorem coAL_sound {E : Enc T} (cs ds : List (AV T)) : (coA.coAL cs ds).length = cs.length ∧ ∀ (i : Nat) c v, (coA.coAL cs ds)[i]? = some c → (∀ c', cs[i]? = some c' → RA E w Z ρ c' v) → RA E w Z ρ c v := by
  cases cs with
  | nil => unfold coA.coAL; exact ⟨rfl, fun i c v hc => by simp at hc⟩
  | cons c cs => cases ds with
    | nil => unfold coA.coAL; exact ⟨rfl, fun i d v hc h => h d hc⟩
    | cons d ds =>
      unfold coA.coAL
      obtain ⟨h1, h2⟩ := coAL_sound (E := E) cs ds
      refine ⟨by simp [h1], fun i e v he h => ?_⟩
      cases i with
      | zero => simp at he; subst he; exact coA_sound (h c rfl)
      | succ i => exact h2 i e v (by simpa using he) fun c' hc' => h c' (by simpa using hc')
end

theorem PCall.co {f : FuncId} {args args' : List (AV T)} {r : AV T} (h : PCall V P f args' r) (hco : coA.coAL args args' = args') : PCall V P f args r := by
  refine ⟨h.1, fun w Z vs hZ hsz hargs => ?_⟩
  obtain ⟨g1, g2⟩ := coAL_sound (E := V.E) (w := w) (Z := Z) (ρ := fun _ => none) args args'
  rw [hco] at g1 g2
  exact h.2 w Z vs hZ (hsz.trans g1.symm) fun i x v hx hv => g2 i x v hx fun c' hc' => hargs i c' v hc' hv

theorem FCall.co {f : FuncId} {args args' : List (AV T)} {t : Tag} {xs : List (T t)} (h : FCall V P f args' t xs) (hco : coA.coAL args args' = args') : FCall V P f args t xs := by
  refine ⟨h.1, fun w Z vs hZ hsz hargs => ?_⟩
  obtain ⟨g1, g2⟩ := coAL_sound (E := V.E) (w := w) (Z := Z) (ρ := fun _ => none) args args'
  rw [hco] at g1 g2
  exact h.2 w Z vs hZ (hsz.trans g1.symm) fun i x v hx hv => g2 i x v hx fun c' hc' => hargs i c' v hc' hv

def coB : Blk T → Blk T → Blk T
  | .raw cs, .raw ds => .raw (coL cs ds)
  | b, _ => b

def coT : List (Nat × AV T) → List (Nat × AV T) → List (Nat × AV T)
  | (t, v) :: r, (s, u) :: q => (t, bif Nat.beq t s then coA v u else v) :: coT r q
  | r, _ => r
def coH : List (Nat × Blk T) → List (Nat × Blk T) → List (Nat × Blk T)
  | (t, v) :: r, (s, u) :: q => (t, bif Nat.beq t s then coB v u else v) :: coH r q
  | r, _ => r
/-- S as S' wants it. -/
def St.co (S S' : St T) : St T := ⟨coT S.tmps S'.tmps, coH S.heap S'.heap⟩

theorem look_coT {t : Nat} : ∀ {l q : List (Nat × AV T)} {v : AV T}, look t (coT l q) = some v → ∃ v0 u, look t l = some v0 ∧ (v = v0 ∨ v = coA v0 u)
  | [], q, v, h => by unfold coT at h; cases h
  | (s, x) :: l, [], v, h => ⟨v, .any, h, .inl rfl⟩
  | (s, x) :: l, (s', u) :: q, v, h => by
    unfold coT at h
    rw [look_cons] at h ⊢
    split at h
    · rename_i he
      rw [if_pos he]
      cases h
      refine ⟨x, u, rfl, ?_⟩
      cases Nat.beq s s' with
      | true => exact .inr rfl
      | false => exact .inl rfl
    · rename_i he
      rw [if_neg he]
      exact look_coT h

theorem look_coH {t : Nat} : ∀ {l q : List (Nat × Blk T)} {v : Blk T}, look t (coH l q) = some v → ∃ v0 u, look t l = some v0 ∧ (v = v0 ∨ v = coB v0 u)
  | [], q, v, h => by unfold coH at h; cases h
  | (s, x) :: l, [], v, h => ⟨v, .raw [], h, .inl rfl⟩
  | (s, x) :: l, (s', u) :: q, v, h => by
    unfold coH at h
    rw [look_cons] at h ⊢
    split at h
    · rename_i he
      rw [if_pos he]
      cases h
      refine ⟨x, u, rfl, ?_⟩
      cases Nat.beq s s' with
      | true => exact .inr rfl
      | false => exact .inl rfl
    · rename_i he
      rw [if_neg he]
      exact look_coH h

theorem coB_sound {E : Enc T} {b u : Blk T} {bc : Option (Nat × Nat × Nat)} (h : BR E w Z ρ b bc) : BR E w Z ρ (coB b u) bc := by
  unfold coB
  split
  · rename_i cs ds
    cases bc with
    | none => exact h
    | some p =>
      obtain ⟨b, c⟩ := p
      obtain ⟨arr, e, h1, h2, h3⟩ := h
      obtain ⟨g1, g2⟩ := coL_sound (E := E) (w := w) (Z := Z) (ρ := ρ) cs ds
      exact ⟨arr, e, h1, h2.trans g1.symm, fun i c u hc hu => g2 i c u hc fun c' hc' => h3 i c' u hc' hu⟩
  · exact h

theorem Abs.co (h : Abs V n m Γ S Z ρ a w) (S' : St T) : Abs V n m Γ (S.co S') Z ρ a w :=
  { h with
    tmps := fun t v hv => by
      obtain ⟨v0, u, h1, h2⟩ := look_coT hv
      rcases h2 with rfl | rfl
      · exact h.tmps t _ h1
      · exact coA_sound (h.tmps t _ h1)
    own := fun id blk b c hl hr => by
      obtain ⟨v0, u, h1, _⟩ := look_coH hl
      exact h.own id v0 b c h1 hr
    inj := fun i i' blk blk' b c c' hl hl' hr hr' => by
      obtain ⟨v0, u, h1, _⟩ := look_coH hl
      obtain ⟨v1, u1, g1, _⟩ := look_coH hl'
      exact h.inj i i' v0 v1 b c c' h1 g1 hr hr'
    blk := fun id blk hl => by
      obtain ⟨v0, u, h1, h2⟩ := look_coH hl
      rcases h2 with rfl | rfl
      · exact h.blk id _ h1
      · exact coB_sound (h.blk id _ h1) }

end
end Go.Proofs.Ytjkfadlomchpjaa.Eng

namespace Go.Proofs.Ytjkfadlomchpjaa.Eng
open Go.RowKit (Below)

section
variable {Tag : Type} {T : Tag → Type} (V : Env T)
variable {P : Program} {n m : Nat} {Γ : Ent} {S : St T} {Z : Nat → Prop} {ρ : Nat → Option (Nat × Nat × Nat)} {a : Act} {w : World}

/-- Is an operation carried out? -/
def evG (ops : Array Oper) (o : Oper) (S : St T) : Option Bool :=
  match o.guard with
  | none => some true
  | some (j, want) => match (ops[j]?).bind (·.dst) with
    | some d => match look d S.tmps with
      | some (.cv (.lit (.bool b))) => some (b == want)
      | some (.tup []) => some false
      | _ => none
    | none => none

theorem evG_sound {ops : Array Oper} {o : Oper} {g : Bool} (h : evG ops o S = some g) (ha : Abs V n m Γ S Z ρ a w) : Region.wanted o (yielded ops a.tmps) = g := by
  unfold evG at h
  unfold Region.wanted
  split at h
  · rename_i hg; rw [hg]; cases h; rfl
  · rename_i j want hg
    rw [hg]
    dsimp only
    split at h
    · rename_i d hd
      unfold yielded
      rw [hd]
      simp only [Option.bind_some]
      split at h
      · rename_i b hl
        cases h
        have e := inv_lit V.E (ha.tmps d _ hl)
        have : a.tmps[d]? = some (.bool b) := by
          rw [Array.getD_eq_getD_getElem?] at e
          cases hh : a.tmps[d]? with
          | none => rw [hh] at e; simp [undef] at e
          | some v => rw [hh] at e; simp at e; rw [e]
        rw [this]
        cases b <;> cases want <;> rfl
      · rename_i hl
        cases h
        have e := ha.tmps d _ hl
        generalize hv : a.tmps.getD d undef = v at e
        cases e with | tup h1 h2 =>
        rename_i us
        have : us = #[] := Array.eq_empty_of_size_eq_zero h1
        subst this
        cases hh : a.tmps[d]? with
        | none => rfl
        | some v => rw [Array.getD_eq_getD_getElem?, hh] at hv; simp at hv; rw [hv]; rfl
      · cases h
    · cases h

def evOp (P : Program) (n m : Nat) (nid : Nat) (ops : Array Oper) (dec : Option Bool) (ora : Option (AV T)) (o : Oper) (S : St T) : Option (List Prop × St T) :=
  bif !dstOk n o.dst then none else
  match evG ops o S with
  | none => none
  | some false => some ([], S.put o.dst (.tup []))
  | some true =>
    match ora with
    | some (.cv (.ron tg xs)) => match evFCall V P S tg xs o with
      | some cs => bif Nat.ble m nid && !S.named nid then some (cs, (S.new nid (.lst tg xs)).put o.dst (.cv (.own tg nid))) else none
      | none => none
    | some r => match evCall V P S r o with
      | some cs => some (cs, S.put o.dst r)
      | none => none
    | none =>
      match evV V P S.heap S.get o with
      | some (cs, r) => match dec with
        | none => some (cs, S.put o.dst r)
        | some b => match r with
          | .cv (.lit (.bool x)) => some (cs ++ [x = b], S.put o.dst (.cv (.lit (.bool b))))
          | _ => none
      | none => match evA V P nid S.get o with
        | some (ps, r, none) => some (ps, S.put o.dst r)
        | some (ps, r, some B) => bif Nat.ble m nid && !S.named nid then some (ps, (S.new nid B).put o.dst r) else none
        | none => match o.op with
          | .store t x v => match S.get x, S.get v with
            | some x, some v => match evStore V P S t x v with
              | some (cs, S') => some (cs, S'.put o.dst (.tup []))
              | none => none
            | _, _ => none
          | .call c => match c.callee with
            | .builtin .append => match c.args.toList, c.argTypes.toList with
              | [s, x], [t, t'] => match S.get s, S.get x with
                | some s, some x => bif Nat.beq t t' then (match evApp V P m S nid t s x with
                  | some (cs, r, S') => some (cs, S'.put o.dst r)
                  | none => none) else none
                | _, _ => none
              | _, _ => none
            | _ => none
          | _ => none

theorem wp_value {o : Oper} {v : Value} {w' : World} (h : (execOp a.eval o).run P w = .ok (.value v) w') {K : Act → World → Prop} {Q : Exit → Act → World → Prop} (hK : K (a.put o.dst v) w') : o.wp P a w K Q := by
  unfold Oper.wp; rw [h]; exact hK

theorem evOp_sound (L : V.E.Law V.isB V.toB) {nid : Nat} {ops : Array Oper} {dec : Option Bool} {ora : Option (AV T)} {o : Oper} {cs : List Prop} {S' : St T}
    (h : evOp V P n m nid ops dec ora o S = some (cs, S')) (hcs : All cs) (ha : Abs V n m Γ S Z ρ a w) {K : Act → World → Prop} {Q : Exit → Act → World → Prop}
    (hK : ∀ a' w' Z' ρ', Abs V n m Γ S' Z' ρ' a' w' → K a' w') : if Region.wanted o (yielded ops a.tmps) = true then o.wp P a w K Q else K (a.put o.dst undef) w := by
  unfold evOp at h
  cases hd : dstOk n o.dst with
  | false => rw [hd] at h; cases h
  | true =>
  rw [hd] at h
  simp only [Bool.not_true, cond_false] at h
  split at h
  · cases h
  · rename_i hg
    rw [evG_sound V hg ha]
    cases h
    simp only [Bool.false_eq_true, if_false]
    exact hK _ _ Z ρ (ha.put hd (.tup (us := #[]) rfl fun i c v hc => by simp at hc))
  · rename_i hg
    rw [evG_sound V hg ha]
    simp only [if_true]
    split at h
    · -- a call that returns a slice of one's own
      rename_i tg xs
      split at h
      · rename_i cs0 hc
        cases hb : (Nat.ble m nid && !S.named nid) with
        | false => rw [hb] at h; cases h
        | true =>
          rw [hb] at h
          cases h
          simp only [Bool.and_eq_true, Bool.not_eq_true'] at hb
          have hm := Nat.le_of_ble_eq_true hb.1
          refine evFCall_sound V hc hcs ha fun v w' Z' ho hr => ?_
          have ha' := ha.onto ho
          rcases hr with ⟨rfl, rfl⟩ | ⟨b, cap, h1, h2, h3, rfl, hB⟩
          · have hn := ha'.claim V (id := nid) (bc := none) hm hb.2 (fun _ _ h => by cases h) (B := .lst tg []) rfl
            exact hK _ _ Z' _ (hn.put hd (.cv (.ownv (by unfold updO; rw [if_pos rfl]))))
          · have hn := ha'.claim V (id := nid) (bc := some (b, cap, xs.length)) hm hb.2 (fun b' c' he => by
              cases he
              refine ⟨h2, h3, .inl (Nat.le_trans ha.hsize h1), fun i blk c' hi hl hr => ?_⟩
              have := (ha.own i blk b c' hl hr).1
              omega) (B := .lst tg xs) hB
            exact hK _ _ Z' _ (hn.put hd (.cv (.own (by unfold updO; rw [if_pos rfl]))))
      · cases h
    · -- a call
      split at h
      · rename_i cs0 hc
        cases h
        exact evCall_sound V hc hcs ha fun v w' Z' ho hr => hK _ _ Z' ρ ((ha.onto ho).put hd hr)
      · cases h
    · split at h
      · rename_i cs0 r hv
        split at h
        · cases h
          obtain ⟨v, e1, e2⟩ := evV_sound V L hv hcs ha.get ha.blk
          exact wp_value e1 (hK _ _ Z ρ (ha.put hd e2))
        · rename_i b
          split at h
          · rename_i x
            cases h
            obtain ⟨h1, h2⟩ := hcs.append
            obtain ⟨v, e1, e2⟩ := evV_sound V L hv h1 ha.get ha.blk
            have hx : x = b := h2
            subst hx
            exact wp_value e1 (hK _ _ Z ρ (ha.put hd e2))
          · cases h
      · split at h
        · rename_i ps r hA
          cases h
          obtain ⟨v, w', e1, Z', ho, hr⟩ := evA_sound V L hA hcs ha.get ha.Zlt
          exact wp_value e1 (hK _ _ Z' ρ ((ha.onto ho).put hd hr))
        · rename_i ps r B hA
          cases hm : (Nat.ble m nid && !S.named nid) with
          | false => rw [hm] at h; cases h
          | true =>
            rw [hm] at h
            cases h
            simp only [Bool.and_eq_true, Bool.not_eq_true'] at hm
            obtain ⟨v, w', e1, b, c, hb, h1, h2, hB, hr⟩ := evA_sound V L hA hcs ha.get ha.Zlt
            exact wp_value e1 (hK _ _ Z _ ((ha.new (Nat.le_of_ble_eq_true hm.1) hm.2 hb h1 h2 hB).put hd hr))
        · split at h
          · -- store
            rename_i t x v hop
            split at h
            · rename_i ux uv hx hv
              split at h
              · rename_i cs0 S1 hs
                cases h
                obtain ⟨w', e1, e2⟩ := evStore_sound V L hs hcs ha (ha.get _ _ hx) (ha.get _ _ hv)
                have hrun : (execOp a.eval o).run P w = .ok .skip w' := by
                  unfold execOp
                  rw [hop]
                  simp only [Sem.run_bind, e1, Result.andThen]
                  rfl
                unfold Oper.wp
                rw [hrun]
                exact hK _ _ Z ρ (e2.put hd (.tup (us := #[]) rfl fun i c v hc => by simp at hc))
              · cases h
            · cases h
          · rename_i c hop
            split at h
            · rename_i hcal
              split at h
              · rename_i s x t t' hargs htys
                split at h
                · rename_i us ux hs hx
                  cases ht : Nat.beq t t' with
                  | false => rw [ht] at h; cases h
                  | true =>
                    rw [ht] at h
                    have := Nat.eq_of_beq_eq_true ht
                    subst this
                    simp only [cond_true] at h
                    split at h
                    · rename_i cs0 r S1 happ
                      cases h
                      obtain ⟨v', w', ρ', e1, e2, e3⟩ := evApp_sound V (ty := o.type) happ hcs ha (ha.get _ _ hs) (ha.get _ _ hx)
                      have hrun : (execOp a.eval o).run P w = .ok (.value v') w' := by
                        unfold execOp
                        rw [hop]
                        simp [resolve, hcal, invoke, builtin, arr2 hargs, arr2 htys, e1]
                      exact wp_value hrun (hK _ _ Z ρ' (e2.put hd e3))
                    · cases h
                · cases h
              · cases h
            · cases h
          · cases h

def evList (P : Program) (n m : Nat) (ops : Array Oper) (base : Nat) (decs : List (Nat × Bool)) (oras : List (Nat × AV T)) : Nat → List Oper → St T → Option (List Prop × St T)
  | _, [], S => some ([], S)
  | i, o :: rest, S => match evOp V P n m (base + i) ops (look i decs) (look i oras) o S with
    | some (cs, S1) => match evList P n m ops base decs oras (i + 1) rest S1 with
      | some (cs2, S2) => some (cs ++ cs2, S2)
      | none => none
    | none => none

theorem evList_sound (L : V.E.Law V.isB V.toB) {ops : Array Oper} {base : Nat} {decs : List (Nat × Bool)} {oras : List (Nat × AV T)} {Q : Exit → Act → World → Prop} : ∀ (l : List Oper) (i : Nat) (S : St T) (Z : Nat → Prop) (ρ : Nat → Option (Nat × Nat × Nat)) (a : Act) (w : World) (cs : List Prop) (S' : St T),
    evList V P n m ops base decs oras i l S = some (cs, S') → All cs → Abs V n m Γ S Z ρ a w → (∀ a' w' Z' ρ', Abs V n m Γ S' Z' ρ' a' w' → Q .normal a' w') → wpList P ops Q l a w
  | [], i, S, Z, ρ, a, w, cs, S', h, hcs, ha, hQ => by cases h; exact hQ _ _ _ _ ha
  | o :: rest, i, S, Z, ρ, a, w, cs, S', h, hcs, ha, hQ => by
    unfold evList at h
    split at h
    · rename_i cs1 S1 h1
      split at h
      · rename_i cs2 S2 h2
        cases h
        obtain ⟨hc1, hc2⟩ := hcs.append
        have := evOp_sound V L (K := wpList P ops Q rest) (Q := Q) h1 hc1 ha fun a' w' Z' ρ' ha' => evList_sound L rest (i + 1) S1 Z' ρ' a' w' cs2 S' h2 hc2 ha' hQ
        unfold wpList
        split
        · rename_i hw; rw [if_pos hw] at this; exact .inl this
        · rename_i hw; rw [if_neg hw] at this; exact this
      · cases h
    · cases h

/-! #### what is kept of a state -/
def pickL {α : Type} : List Nat → List (Nat × α) → List (Nat × α)
  | [], _ => []
  | t :: ts, l => match look t l with
    | some v => (t, v) :: pickL ts l
    | none => pickL ts l

theorem look_pickL {α : Type} (t : Nat) : ∀ (ts : List Nat) (l : List (Nat × α)) (v : α), look t (pickL ts l) = some v → look t l = some v
  | [], l, v, h => by cases h
  | s :: ts, l, v, h => by
    unfold pickL at h
    split at h
    · rename_i u hu
      rw [look_cons] at h
      split at h
      · subst_vars; cases h; exact hu
      · exact look_pickL t ts l v h
    · exact look_pickL t ts l v h

def St.keep (S : St T) (ts ids : List Nat) : St T := ⟨pickL ts S.tmps, pickL ids S.heap⟩

theorem Abs.keep {V : Env T} (h : Abs V n m Γ S Z ρ a w) (ts ids : List Nat) : Abs V n m Γ (S.keep ts ids) Z ρ a w :=
  { h with
    tmps := fun t v hv => h.tmps t v (look_pickL t ts _ v hv)
    own := fun id blk b c hl hr => h.own id blk b c (look_pickL id ids _ _ hl) hr
    inj := fun id id' blk blk' b c c' h1 h2 => h.inj id id' blk blk' b c c' (look_pickL id ids _ _ h1) (look_pickL id' ids _ _ h2)
    blk := fun id blk hl => h.blk id blk (look_pickL id ids _ _ hl) }

/-! #### the abstract weakest precondition -/
def AWp (P : Program) (n m : Nat) (Γ : Ent) (c : Code) (Q : Exit → St T → Prop) (S : St T) : Prop :=
  ∀ Z ρ a w, Abs V n m Γ S Z ρ a w → c.wp P (fun e a' w' => ∃ S' Z' ρ', Q e S' ∧ Abs V n m Γ S' Z' ρ' a' w') a w

def AThen (K : St T → Prop) (Q : Exit → St T → Prop) : Exit → St T → Prop
  | .normal, S => K S
  | e, S => Q e S

def AIn (id : Nat) (Q : Exit → St T → Prop) : Exit → St T → Prop
  | .exit id', S => if id' = id then Q .normal S else Q (.exit id') S
  | e, S => Q e S

variable {V} {Q : Exit → St T → Prop}

theorem awp_keep {c : Code} {ts ids : List Nat} {S' : St T} (hk : (S.keep ts ids).co S' = S') (h : AWp V P n m Γ c Q S') : AWp V P n m Γ c Q S :=
  fun Z ρ a w ha => h Z ρ a w (hk ▸ (ha.keep ts ids).co V S')

theorem awp_region (L : V.E.Law V.isB V.toB) {id : Nat} {ops : Array Oper} (base : Nat) (decs : List (Nat × Bool)) (oras : List (Nat × AV T)) (ts ids : List Nat) {cs : List Prop} {S' : St T}
    (h : (evList V P n m ops base decs oras 0 ops.toList S).map (fun p => (p.1, (p.2.keep ts ids).co S')) = some (cs, S')) (hcs : All cs) (hQ : Q .normal S') : AWp V P n m Γ (.region id ops false) Q S := by
  intro Z ρ a w ha
  rw [Option.map_eq_some_iff] at h
  obtain ⟨⟨cs0, S2⟩, h1, h2⟩ := h
  simp only [Prod.mk.injEq] at h2
  obtain ⟨rfl, h2⟩ := h2
  exact wp_region_list (evList_sound V L ops.toList 0 S Z ρ a w _ S2 h1 hcs ha fun a' w' Z' ρ' ha' => ⟨_, Z', ρ', hQ, h2 ▸ (ha'.keep ts ids).co V S'⟩)

theorem awp_seq {x y : Code} (h : AWp V P n m Γ x (AThen (AWp V P n m Γ y Q) Q) S) : AWp V P n m Γ (.seq x y) Q S := by
  intro Z ρ a w ha
  refine wp_seq (Code.wp_mono (fun e a' w' hq => ?_) (h Z ρ a w ha))
  obtain ⟨S', Z', ρ', hq, ha'⟩ := hq
  cases e <;> first | exact hq Z' ρ' a' w' ha' | exact ⟨S', Z', ρ', hq, ha'⟩

theorem awp_skip {S' : St T} (ts ids : List Nat) (hk : (S.keep ts ids).co S' = S') (h : Q .normal S') : AWp V P n m Γ .skip Q S :=
  fun Z ρ a w ha => wp_skip ⟨S', Z, ρ, h, hk ▸ (ha.keep ts ids).co V S'⟩

theorem awp_skip' (h : Q .normal S) : AWp V P n m Γ .skip Q S := fun Z ρ a w ha => wp_skip ⟨S, Z, ρ, h, ha⟩

theorem awp_exit {S' : St T} {id : Nat} (ts ids : List Nat) (hk : (S.keep ts ids).co S' = S') (h : Q (.exit id) S') : AWp V P n m Γ (.exit id) Q S :=
  fun Z ρ a w ha => wp_exit ⟨S', Z, ρ, h, hk ▸ (ha.keep ts ids).co V S'⟩

theorem awp_exit' {id : Nat} (h : Q (.exit id) S) : AWp V P n m Γ (.exit id) Q S := fun Z ρ a w ha => wp_exit ⟨S, Z, ρ, h, ha⟩

theorem awp_ret (h : Q .ret S) : AWp V P n m Γ .ret Q S := fun Z ρ a w ha => wp_ret ⟨S, Z, ρ, h, ha⟩

theorem awp_true {c : Operand} {x y : Code} {b : Bool} (hc : S.get c = some (.cv (.lit (.bool b)))) (hb : b = true) (h : AWp V P n m Γ x Q S) : AWp V P n m Γ (.cond c x y) Q S :=
  fun Z ρ a w ha => by
    subst hb
    exact wp_cond_true (inv_lit V.E (ha.get c _ hc)) (h Z ρ a w ha)

theorem awp_false {c : Operand} {x y : Code} {b : Bool} (hc : S.get c = some (.cv (.lit (.bool b)))) (hb : b = false) (h : AWp V P n m Γ y Q S) : AWp V P n m Γ (.cond c x y) Q S :=
  fun Z ρ a w ha => by
    subst hb
    exact wp_cond_false (inv_lit V.E (ha.get c _ hc)) (h Z ρ a w ha)

theorem awp_block {id : Nat} {c : Code} (h : AWp V P n m Γ c (AIn id Q) S) : AWp V P n m Γ (.block id c) Q S := by
  intro Z ρ a w ha
  refine wp_block (Code.wp_mono (fun e a' w' hq => ?_) (h Z ρ a w ha))
  obtain ⟨S', Z', ρ', hq, ha'⟩ := hq
  cases e with
  | exit id' =>
    simp only [AIn] at hq
    simp only [Exit.inBlock]
    split
    · rename_i he; rw [if_pos he] at hq; exact ⟨S', Z', ρ', hq, ha'⟩
    · rename_i he; rw [if_neg he] at hq; exact ⟨S', Z', ρ', hq, ha'⟩
  | _ => exact ⟨S', Z', ρ', hq, ha'⟩

theorem awp_loop {c : Code} (R : Nat → St T → Prop) (hr : ∀ k S, R k S → AWp V P n m Γ c (AThen (fun S' => ∃ k', k' < k ∧ R k' S') Q) S) {k : Nat} (h0 : R k S) : AWp V P n m Γ (.loop c) Q S := by
  intro Z ρ a w ha b kk cs
  have key : ∀ k S Z ρ a w, R k S → Abs V n m Γ S Z ρ a w → ∃ e a' w', (∃ S' Z' ρ', Q e S' ∧ Abs V n m Γ S' Z' ρ' a' w') ∧ Arrives P (lone (b.at a (.code c :: .inLoop c :: kk)) cs w) b kk cs e a' w' := by
    intro k
    induction k using Nat.strongRecOn with
    | _ k ih =>
      intro S Z ρ a w hR ha
      obtain ⟨e, a₁, w₁, hq, harr⟩ := hr k S hR Z ρ a w ha b (.inLoop c :: kk) cs
      obtain ⟨S', Z', ρ', hq, ha'⟩ := hq
      cases e with
      | normal =>
        obtain ⟨k', hlt, hR'⟩ := hq
        obtain ⟨e₂, a₂, w₂, hq₂, harr₂⟩ := ih k' hlt S' Z' ρ' a₁ w₁ hR' ha'
        exact ⟨e₂, a₂, w₂, hq₂, .of_steps (Steps.trans harr (.one step_inLoop)) harr₂⟩
      | exit id => exact ⟨_, a₁, w₁, ⟨S', Z', ρ', hq, ha'⟩, .pass (x := .inLoop c) rfl (fun _ _ => .inl (by simp)) harr⟩
      | goto l => exact ⟨_, a₁, w₁, ⟨S', Z', ρ', hq, ha'⟩, .pass (x := .inLoop c) rfl (fun _ _ => .inl (by simp)) harr⟩
      | ret => exact ⟨_, a₁, w₁, ⟨S', Z', ρ', hq, ha'⟩, .pass (x := .inLoop c) rfl (fun _ _ => .inl (by simp)) harr⟩
      | panic ch => exact ⟨_, a₁, w₁, ⟨S', Z', ρ', hq, ha'⟩, .pass (x := .inLoop c) rfl (fun _ _ => .inl (by simp)) harr⟩
      | outgrown => exact ⟨_, a₁, w₁, ⟨S', Z', ρ', hq, ha'⟩, .pass (x := .inLoop c) rfl (fun _ _ => .inl (by simp)) harr⟩
  obtain ⟨e, a', w', hq, harr⟩ := key k S Z ρ a w h0 ha
  exact ⟨e, a', w', hq, .of_steps (.one step_loop) harr⟩

/-! #### a function -/
def resV (E : Enc T) (P : Program) (S : St T) : ResultVar → Option (AV T)
  | .tmp t => look t S.tmps
  | .cell t ty => match look t S.tmps with
    | some (.cv (.ptr id off)) => match look id S.heap with
      | some (.raw cs) => ld P ty cs off
      | _ => none
    | _ => none

def evRes (E : Enc T) (P : Program) (S : St T) (fn : Func) : Option (AV T) :=
  match fn.results.toList with
  | [] => some (.tup [])
  | [r] => resV E P S r
  | [r1, r2] => match resV E P S r1, resV E P S r2 with | some a, some b => some (.tup [a, b]) | _, _ => none
  | [r1, r2, r3] => match resV E P S r1, resV E P S r2, resV E P S r3 with | some a, some b, some c => some (.tup [a, b, c]) | _, _, _ => none
  | [r1, r2, r3, r4] => match resV E P S r1, resV E P S r2, resV E P S r3, resV E P S r4 with | some a, some b, some c, some d => some (.tup [a, b, c, d]) | _, _, _, _ => none
  | _ => none

def runV (tmps : Array Value) : ResultVar → Sem Value
  | .tmp t => pure (tmps.getD t undef)
  | .cell a t => do loadVar t (← asAddr (tmps.getD a undef))

theorem resV_sound {r : ResultVar} {x : AV T} (h : resV V.E P S r = some x) (ha : Abs V n m Γ S Z ρ a w) : ∃ v, (runV a.tmps r).run P w = .ok v w ∧ RA V.E w Z ρ x v := by
  unfold resV at h
  split at h
  · exact ⟨_, rfl, ha.tmps _ _ h⟩
  · rename_i t ty
    split at h
    · rename_i id off hl
      split at h
      · rename_i cs hlk
        have hx := ha.tmps _ _ hl
        generalize hv : a.tmps.getD t undef = v at hx
        cases hx with | cv hx =>
        cases hx with
        | pure hx => cases hx
        | @ptr _ _ b c hr =>
          have hb := ha.blk _ _ hlk
          rw [hr] at hb
          obtain ⟨arr, e, h1, hsz, hrel⟩ := hb
          obtain ⟨u, hu, hru⟩ := ld_sound V.E (w := w) (Z := Z) (ρ := ρ) h ⟨b, 0, none⟩ (fun j c hc => by
            have hj : j < arr.size := by rw [hsz]; exact (List.getElem?_eq_some_iff.1 hc).1
            exact ⟨arr[j], by rw [add_none, Nat.zero_add, cell_of_arr h1]; simp [hj], hrel j c _ hc (by simp [hj])⟩)
          rw [add_none, Nat.zero_add] at hu
          exact ⟨u, by simp only [runV, hv, asAddr, Sem.run_bind, Sem.run_pure, Result.andThen]; exact hu, hru⟩
      · cases h
    · cases h

theorem arr3 {α : Type} {a : Array α} {x y z : α} (h : a.toList = [x, y, z]) : a = #[x, y, z] := by
  cases a; simp at h; subst h; rfl
theorem arr4 {α : Type} {a : Array α} {x y z u : α} (h : a.toList = [x, y, z, u]) : a = #[x, y, z, u] := by
  cases a; simp at h; subst h; rfl
theorem arr0 {α : Type} {a : Array α} (h : a.toList = []) : a = #[] := by
  cases a; simp at h; subst h; rfl

theorem results_eq (fn : Func) (tmps : Array Value) : results fn tmps = (do let vs ← fn.results.mapM (runV tmps); pure (if h : vs.size = 1 then vs[0] else .tuple vs)) := by
  unfold results
  congr 1

theorem RA.tup2 {E : Enc T} {x y : AV T} {u v : Value} (h1 : RA E w Z ρ x u) (h2 : RA E w Z ρ y v) : RA E w Z ρ (.tup [x, y]) (.tuple #[u, v]) :=
  .tup rfl fun i c v hc hv => by
    match i with
    | 0 => simp at hc hv; subst hc; subst hv; exact h1
    | 1 => simp at hc hv; subst hc; subst hv; exact h2
    | i + 2 => simp at hc

theorem RA.tup3 {E : Enc T} {x y z : AV T} {u v q : Value} (h1 : RA E w Z ρ x u) (h2 : RA E w Z ρ y v) (h3 : RA E w Z ρ z q) : RA E w Z ρ (.tup [x, y, z]) (.tuple #[u, v, q]) :=
  .tup rfl fun i c v hc hv => by
    match i with
    | 0 => simp at hc hv; subst hc; subst hv; exact h1
    | 1 => simp at hc hv; subst hc; subst hv; exact h2
    | 2 => simp at hc hv; subst hc; subst hv; exact h3
    | i + 3 => simp at hc

theorem RA.tup4 {E : Enc T} {x y z t : AV T} {u v q p : Value} (h1 : RA E w Z ρ x u) (h2 : RA E w Z ρ y v) (h3 : RA E w Z ρ z q) (h4 : RA E w Z ρ t p) : RA E w Z ρ (.tup [x, y, z, t]) (.tuple #[u, v, q, p]) :=
  .tup rfl fun i c v hc hv => by
    match i with
    | 0 => simp at hc hv; subst hc; subst hv; exact h1
    | 1 => simp at hc hv; subst hc; subst hv; exact h2
    | 2 => simp at hc hv; subst hc; subst hv; exact h3
    | 3 => simp at hc hv; subst hc; subst hv; exact h4
    | i + 4 => simp at hc

theorem evRes_sound {fn : Func} {x : AV T} (h : evRes V.E P S fn = some x) (ha : Abs V n m Γ S Z ρ a w) : ∃ v, (results fn a.tmps).run P w = .ok v w ∧ RA V.E w Z ρ x v := by
  rw [results_eq]
  unfold evRes at h
  split at h
  · rename_i hr
    cases h
    exact ⟨.tuple #[], by rw [arr0 hr]; simp, .tup rfl fun i c v hc => by simp at hc⟩
  · rename_i r hr
    obtain ⟨v, e1, e2⟩ := resV_sound h ha
    exact ⟨v, by rw [arr1 hr]; simp [e1], e2⟩
  · rename_i r1 r2 hr
    split at h
    · rename_i x1 x2 h1 h2
      cases h
      obtain ⟨v1, e1, g1⟩ := resV_sound h1 ha
      obtain ⟨v2, e2, g2⟩ := resV_sound h2 ha
      exact ⟨.tuple #[v1, v2], by rw [arr2 hr]; simp [e1, e2], RA.tup2 g1 g2⟩
    · cases h
  · rename_i r1 r2 r3 hr
    split at h
    · rename_i x1 x2 x3 h1 h2 h3
      cases h
      obtain ⟨v1, e1, g1⟩ := resV_sound h1 ha
      obtain ⟨v2, e2, g2⟩ := resV_sound h2 ha
      obtain ⟨v3, e3, g3⟩ := resV_sound h3 ha
      exact ⟨.tuple #[v1, v2, v3], by rw [arr3 hr]; simp [e1, e2, e3], RA.tup3 g1 g2 g3⟩
    · cases h
  · rename_i r1 r2 r3 r4 hr
    split at h
    · rename_i x1 x2 x3 x4 h1 h2 h3 h4
      cases h
      obtain ⟨v1, e1, g1⟩ := resV_sound h1 ha
      obtain ⟨v2, e2, g2⟩ := resV_sound h2 ha
      obtain ⟨v3, e3, g3⟩ := resV_sound h3 ha
      obtain ⟨v4, e4, g4⟩ := resV_sound h4 ha
      exact ⟨.tuple #[v1, v2, v3, v4], by rw [arr4 hr]; simp [e1, e2, e3, e4], RA.tup4 g1 g2 g3 g4⟩
    · cases h
  · cases h

/-- What a pure function ends in. -/
def Ends (P : Program) (V : Env T) (fn : Func) (r : AV T) (e : Exit) (S : St T) : Prop :=
  (e = .normal ∨ e = .ret) ∧ ∃ x, evRes V.E P S fn = some x ∧ coA (lend V.E S.heap x) r = r ∧ All (lendA S.heap x) ∧ r.clean = true

def args0 : Nat → List (AV T) → List (Nat × AV T)
  | _, [] => []
  | i, v :: vs => (i, v) :: args0 (i + 1) vs

theorem look_args0 : ∀ (vs : List (AV T)) (i t : Nat) (v : AV T), look t (args0 i vs) = some v → i ≤ t ∧ vs[t - i]? = some v
  | [], i, t, v, h => by cases h
  | x :: vs, i, t, v, h => by
    unfold args0 at h
    rw [look_cons] at h
    split at h
    · subst_vars; cases h; simp
    · obtain ⟨h1, h2⟩ := look_args0 vs (i + 1) t v h
      refine ⟨by omega, ?_⟩
      rw [show t - i = (t - (i + 1)) + 1 from by omega]
      simpa using h2

theorem pcall_of {f : FuncId} {fn : Func} {c : Code} {args : List (AV T)} {r : AV T} (hf : P.funcs[f]? = some fn) (hb : fn.body = some c) (hcal : callable P f = true) (hn : fn.ntmps = n) (hle : Nat.ble args.length n = true)
    (hclean : AV.clean.cleanL args = true)
    (h : ∀ Γ : Ent, AWp V P n 0 Γ c (Ends P V fn r) ⟨args0 0 args, []⟩) : PCall V P f args r := by
  refine ⟨hcal, fun w Z vs hZ hsz hargs => ?_⟩
  let Γ : Ent := { w0 := w, Z0 := Z, D := fun _ => False, st := [] }
  refine calls_of_wp hf hb ?_
  have ha : Abs V n 0 Γ ⟨args0 0 args, []⟩ Z (fun _ => none) { tmps := vs ++ Array.replicate (fn.ntmps - vs.size) undef, defers := [] } w := {
    defers := rfl
    size := by have := Nat.le_of_ble_eq_true hle; simp [hn]; omega
    tmps := fun t v hv => by
      obtain ⟨_, hv⟩ := look_args0 args 0 t v hv
      simp only [Nat.sub_zero] at hv
      have ht : t < vs.size := by rw [hsz]; exact (List.getElem?_eq_some_iff.1 hv).1
      have := hargs t v vs[t] hv (by simp [ht])
      have e : (vs ++ Array.replicate (fn.ntmps - vs.size) undef).getD t undef = vs[t] := by
        rw [Array.getD_eq_getD_getElem?, Array.getElem?_append_left ht]; simp [ht]
      rw [e]; exact this
    os := rfl
    tape := rfl
    output := rfl
    hsize := Nat.le_refl _
    old := fun _ _ _ => rfl
    stm := fun p hp => by cases hp
    st := fun p hp => by cases hp
    Z0 := fun _ h => h
    Zold := fun _ h _ => h
    Zlt := hZ
    own := fun id blk b c hl => by cases hl
    inj := fun id id' blk blk' b c c' hl => by cases hl
    blk := fun id blk hl => by cases hl }
  refine Code.wp_mono (fun e a' w' hq => ?_) (h Γ Z _ _ w ha)
  obtain ⟨S', Z', ρ', ⟨he, x, h1, h2, h3, h4⟩, ha'⟩ := hq
  obtain ⟨v, e1, e2⟩ := evRes_sound h1 ha'
  have e3 := coA_sound (y := r) (lend_sound V e2 h3 ha'.blk)
  rw [h2] at e3
  have key : ∃ v, (results fn a'.tmps).run P w' = .ok v w' ∧ (∃ v2 Z'', Ending.returned v = .returned v2 ∧ Onto w w' Z Z'' ∧ RA V.E w' Z'' (fun _ => none) r v2) := by
    refine ⟨v, e1, v, ZL Z' S'.heap ρ', rfl, ⟨⟨ha'.os, ha'.tape, ha'.output, ha'.hsize, fun k hk => ha'.old k hk (fun h => h)⟩, fun b hb => .inl (ha'.Z0 b hb), fun b hb => ?_⟩, ?_⟩
    · rcases hb with hb | ⟨id, blk, c, g1, g2⟩
      · rcases Nat.lt_or_ge b w.heap.size with hlt | hge
        · exact .inl (ha'.Zold b hb hlt)
        · exact .inr ⟨hge, ha'.Zlt b hb⟩
      · obtain ⟨g3, g4, g5⟩ := ha'.own id blk b c g1 g2
        rcases g5 with g5 | g5
        · exact .inr ⟨g5, g3⟩
        · exact g5.elim
    · exact e3.mono V.E (fun _ h => h) (fun _ _ => rfl) fun id hid => by rw [AV.clean_names h4 id] at hid; cases hid
  rcases he with rfl | rfl
  · exact ⟨ha'.defers, key⟩
  · exact ⟨ha'.defers, key⟩


/-- What a function ends in that returns a slice of its own. -/
def EndsF (P : Program) (V : Env T) (fn : Func) (t : Tag) (xs : List (T t)) (e : Exit) (S : St T) : Prop :=
  (e = .normal ∨ e = .ret) ∧ ((evRes V.E P S fn = some (.cv (.lit (.slice none 0 0))) ∧ xs = []) ∨ ∃ id, evRes V.E P S fn = some (.cv (.own t id)) ∧ look id S.heap = some (.lst t xs))

theorem fcall_of {f : FuncId} {fn : Func} {c : Code} {args : List (AV T)} {t : Tag} {xs : List (T t)} (hf : P.funcs[f]? = some fn) (hb : fn.body = some c) (hcal : callable P f = true) (hn : fn.ntmps = n) (hle : Nat.ble args.length n = true)
    (hclean : AV.clean.cleanL args = true)
    (h : ∀ Γ : Ent, AWp V P n 0 Γ c (EndsF P V fn t xs) ⟨args0 0 args, []⟩) : FCall V P f args t xs := by
  refine ⟨hcal, fun w Z vs hZ hsz hargs => ?_⟩
  let Γ : Ent := { w0 := w, Z0 := Z, D := fun _ => False, st := [] }
  refine calls_of_wp hf hb ?_
  have ha : Abs V n 0 Γ ⟨args0 0 args, []⟩ Z (fun _ => none) { tmps := vs ++ Array.replicate (fn.ntmps - vs.size) undef, defers := [] } w := {
    defers := rfl
    size := by have := Nat.le_of_ble_eq_true hle; simp [hn]; omega
    tmps := fun t v hv => by
      obtain ⟨_, hv⟩ := look_args0 args 0 t v hv
      simp only [Nat.sub_zero] at hv
      have ht : t < vs.size := by rw [hsz]; exact (List.getElem?_eq_some_iff.1 hv).1
      have := hargs t v vs[t] hv (by simp [ht])
      have e : (vs ++ Array.replicate (fn.ntmps - vs.size) undef).getD t undef = vs[t] := by
        rw [Array.getD_eq_getD_getElem?, Array.getElem?_append_left ht]; simp [ht]
      rw [e]; exact this
    os := rfl
    tape := rfl
    output := rfl
    hsize := Nat.le_refl _
    old := fun _ _ _ => rfl
    stm := fun p hp => by cases hp
    st := fun p hp => by cases hp
    Z0 := fun _ h => h
    Zold := fun _ h _ => h
    Zlt := hZ
    own := fun id blk b c hl => by cases hl
    inj := fun id id' blk blk' b c c' hl => by cases hl
    blk := fun id blk hl => by cases hl }
  refine Code.wp_mono (fun e a' w' hq => ?_) (h Γ Z _ _ w ha)
  obtain ⟨S', Z', ρ', ⟨he, hq⟩, ha'⟩ := hq
  have hon : Onto w w' Z Z' := ⟨⟨ha'.os, ha'.tape, ha'.output, ha'.hsize, fun k hk => ha'.old k hk (fun h => h)⟩, fun b hb => ha'.Z0 b hb, fun b hb => by
    rcases Nat.lt_or_ge b w.heap.size with hlt | hge
    · exact .inl (ha'.Zold b hb hlt)
    · exact .inr ⟨hge, ha'.Zlt b hb⟩⟩
  have key : ∃ v, (results fn a'.tmps).run P w' = .ok v w' ∧ (∃ v2 Z'', Ending.returned v = .returned v2 ∧ Onto w w' Z Z'' ∧ ((v2 = .slice none 0 0 ∧ xs = []) ∨
      ∃ b cap, w.heap.size ≤ b ∧ b < w'.heap.size ∧ ¬ Z'' b ∧ v2 = .slice (some ⟨b, 0, none⟩) xs.length cap ∧ BR V.E w' Z'' (fun _ => none) (.lst t xs) (some (b, cap, xs.length)))) := by
    rcases hq with ⟨h1, hx⟩ | ⟨id, h1, h2⟩
    · obtain ⟨v, e1, e2⟩ := evRes_sound h1 ha'
      refine ⟨v, e1, v, Z', rfl, hon, .inl ⟨?_, hx⟩⟩
      cases e2 with | cv e2 => cases e2 with | pure e2 => cases e2 with | lit => rfl
    · obtain ⟨v, e1, e2⟩ := evRes_sound h1 ha'
      refine ⟨v, e1, v, Z', rfl, hon, ?_⟩
      have hb := ha'.blk id _ h2
      cases e2 with | cv e2 =>
      cases e2 with
      | pure e2 => cases e2
      | ownv hr => rw [hr] at hb; exact .inl ⟨rfl, hb⟩
      | @own _ _ n b cap hr =>
        rw [hr] at hb
        obtain ⟨hn, arr, g⟩ := hb
        subst hn
        obtain ⟨g1, g2, g3⟩ := ha'.own id _ b _ h2 hr
        refine .inr ⟨b, cap, ?_, g1, g2, rfl, rfl, arr, g⟩
        rcases g3 with g3 | g3
        · exact g3
        · exact g3.elim
  rcases he with rfl | rfl
  · exact ⟨ha'.defers, key⟩
  · exact ⟨ha'.defers, key⟩

end
end Go.Proofs.Ytjkfadlomchpjaa.Eng

namespace Go.Proofs.Ytjkfadlomchpjaa.Eng
open Go.RowKit (Below)

/-! #### which operation waits for which -/
def maskOf (acc : List Nat) : List Edge → Nat
  | [] => 0
  | e :: es => bif Region.binds .any e then 2 ^ e.on ||| acc.getD e.on 0 ||| maskOf acc es else maskOf acc es

def befL : List Oper → List Nat → List Nat
  | [], acc => acc
  | o :: r, acc => befL r (acc ++ [maskOf acc o.after.toList])

def bit (M : List Nat) (i j : Nat) : Bool := (M.getD i 0).testBit j

theorem maskOf_spec {acc : List Nat} {j : Nat} : ∀ {es : List Edge}, (maskOf acc es).testBit j = true → ∃ e ∈ es, Region.binds .any e = true ∧ (j = e.on ∨ (acc.getD e.on 0).testBit j = true)
  | [], h => by simp [maskOf] at h
  | e :: es, h => by
    unfold maskOf at h
    cases hb : Region.binds .any e with
    | true =>
      rw [hb] at h
      simp only [cond_true, Nat.testBit_or, Bool.or_eq_true] at h
      rcases h with (h | h) | h
      · rw [Nat.testBit_two_pow] at h
        exact ⟨e, by simp, hb, .inl (of_decide_eq_true h).symm⟩
      · exact ⟨e, by simp, hb, .inr h⟩
      · obtain ⟨e', h1, h2, h3⟩ := maskOf_spec h
        exact ⟨e', by simp [h1], h2, h3⟩
    | false =>
      rw [hb] at h
      obtain ⟨e', h1, h2, h3⟩ := maskOf_spec h
      exact ⟨e', by simp [h1], h2, h3⟩

theorem befL_acc : ∀ (l : List Oper) (acc : List Nat), ∃ more, befL l acc = acc ++ more
  | [], acc => ⟨[], by simp [befL]⟩
  | o :: r, acc => by
    obtain ⟨more, h⟩ := befL_acc r (acc ++ [maskOf acc o.after.toList])
    exact ⟨[maskOf acc o.after.toList] ++ more, by simp only [befL]; rw [h]; simp⟩

theorem befL_at : ∀ (l : List Oper) (acc : List Nat) (i : Nat) (o : Oper), l[i]? = some o → (befL l acc)[acc.length + i]? = some (maskOf ((befL l acc).take (acc.length + i)) o.after.toList)
  | [], acc, i, o, h => by simp at h
  | o' :: r, acc, i, o, h => by
    cases i with
    | zero =>
      simp at h; subst h
      obtain ⟨more, hm⟩ := befL_acc r (acc ++ [maskOf acc o'.after.toList])
      simp only [befL, Nat.add_zero]
      rw [hm]
      rw [List.append_assoc, List.getElem?_append_right (Nat.le_refl _)]
      simp
    | succ i =>
      have := befL_at r (acc ++ [maskOf acc o'.after.toList]) i o (by simpa using h)
      simp only [befL]
      rw [List.length_append] at this
      simp only [List.length_cons, List.length_nil] at this
      rw [show acc.length + (i + 1) = acc.length + (0 + 1) + i from by omega]
      exact this

/-- Each operation's edges point back. -/
def edgesOk : Nat → List Oper → Bool
  | _, [] => true
  | i, o :: r => o.after.toList.all (fun e => !Region.binds .any e || Nat.blt e.on i) && edgesOk (i + 1) r

theorem edgesOk_spec : ∀ (l : List Oper) (k i : Nat) (o : Oper), edgesOk k l = true → l[i]? = some o → ∀ e ∈ o.after, Region.binds .any e = true → e.on < k + i
  | [], k, i, o, h, ho => by simp at ho
  | o' :: r, k, i, o, h, ho => by
    simp only [edgesOk, Bool.and_eq_true] at h
    cases i with
    | zero =>
      simp at ho; subst ho
      intro e he hb
      have := List.all_eq_true.1 h.1 e (Array.mem_toList_iff.2 he)
      simp only [hb, Bool.not_true, Bool.false_or] at this
      have h3 := Nat.le_of_ble_eq_true this
      omega
    | succ i =>
      intro e he hb
      have := edgesOk_spec r (k + 1) i o h.2 (by simpa using ho) e he hb
      omega

/-- All that an operation waits for is listed, if its edges' ends are, and the listed ones are closed. -/
theorem bef_listed {ops : Array Oper} (hedges : edgesOk 0 ops.toList = true) {listed : Nat → Bool} (hclosed : ∀ i o, ops[i]? = some o → listed i = true → ∀ e ∈ o.after, Region.binds .any e = true → listed e.on = true) :
    ∀ (i : Nat) (o : Oper), ops[i]? = some o → (∀ e ∈ o.after, Region.binds .any e = true → listed e.on = true) → ∀ j, bit (befL ops.toList []) i j = true → listed j = true := by
  intro i
  induction i using Nat.strongRecOn with
  | _ i ih =>
    intro o ho hd j hj
    have hat := befL_at ops.toList [] i o (by simpa using ho)
    simp only [List.length_nil, Nat.zero_add] at hat
    unfold bit at hj
    rw [List.getD, hat, Option.getD_some] at hj
    obtain ⟨e, he, hb, h⟩ := maskOf_spec hj
    have he' := Array.mem_toList_iff.1 he
    have hlt := edgesOk_spec ops.toList 0 i o hedges (by simpa using ho) e he' hb
    rcases h with rfl | h
    · exact hd e he' hb
    · rw [List.getD, List.getElem?_take, if_pos (by omega)] at h
      have hsz : e.on < ops.size := by
        have := (Array.getElem?_eq_some_iff.1 ho).1; omega
      exact ih e.on (by omega) _ (Array.getElem?_eq_getElem hsz) (fun e2 he2 hb2 => hclosed e.on _ (Array.getElem?_eq_getElem hsz) (hd e he' hb) e2 he2 hb2) j (by unfold bit; rw [List.getD]; exact h)

/-! #### lists of what has been carried out -/
def bld {α : Type} (listed : Nat → Bool) (f : Nat → Option (Nat × α)) : Nat → List (Nat × α)
  | 0 => []
  | n + 1 => bif listed n then (match f n with | some p => p :: bld listed f n | none => bld listed f n) else bld listed f n

theorem look_bld_some {α : Type} {listed : Nat → Bool} {f : Nat → Option (Nat × α)} {t : Nat} {v : α} : ∀ {n : Nat}, look t (bld listed f n) = some v → ∃ i, i < n ∧ listed i = true ∧ f i = some (t, v)
  | 0, h => by cases h
  | n + 1, h => by
    unfold bld at h
    cases hl : listed n with
    | false =>
      rw [hl] at h
      obtain ⟨i, h1, h2, h3⟩ := look_bld_some h
      exact ⟨i, by omega, h2, h3⟩
    | true =>
      rw [hl] at h
      simp only [cond_true] at h
      split at h
      · rename_i p hp
        obtain ⟨k, u⟩ := p
        rw [look_cons] at h
        split at h
        · subst_vars; cases h; exact ⟨n, by omega, hl, hp⟩
        · obtain ⟨i, h1, h2, h3⟩ := look_bld_some h
          exact ⟨i, by omega, h2, h3⟩
      · obtain ⟨i, h1, h2, h3⟩ := look_bld_some h
        exact ⟨i, by omega, h2, h3⟩

theorem look_bld_of {α : Type} {listed : Nat → Bool} {f : Nat → Option (Nat × α)} {t : Nat} {v : α} {i : Nat} (hf : f i = some (t, v)) (hl : listed i = true) : ∀ {n : Nat}, i < n → (∀ j, j < n → j ≠ i → ∀ u, f j ≠ some (t, u)) → look t (bld listed f n) = some v
  | 0, h, _ => by omega
  | n + 1, h, hd => by
    unfold bld
    by_cases hin : i = n
    · subst hin
      rw [hl, hf]
      simp only [cond_true]
      rw [look_cons, if_pos rfl]
    · have ih := look_bld_of hf hl (n := n) (by omega) (fun j hj hne => hd j (by omega) hne)
      cases hln : listed n with
      | false => exact ih
      | true =>
        simp only [cond_true]
        split
        · rename_i p hp
          obtain ⟨k, u⟩ := p
          rw [look_cons, if_neg (fun e => hd n (by omega) (fun e => hin e.symm) u (by rw [e]; exact hp))]
          exact ih
        · exact ih

theorem look_bld_none {α : Type} {listed : Nat → Bool} {f : Nat → Option (Nat × α)} {t : Nat} {n : Nat} (h : ∀ i, i < n → listed i = true → ∀ u, f i ≠ some (t, u)) : look t (bld listed f n) = none := by
  cases hh : look t (bld listed f n) with
  | none => rfl
  | some v =>
    obtain ⟨i, h1, h2, h3⟩ := look_bld_some hh
    exact absurd h3 (h i h1 h2 v)

theorem look_append {α : Type} (t : Nat) : ∀ (l r : List (Nat × α)), look t (l ++ r) = (look t l).or (look t r)
  | [], r => by simp [look]
  | (s, v) :: l, r => by
    simp only [List.cons_append, look]
    cases Nat.beq s t with
    | true => rfl
    | false => exact look_append t l r

section
variable {Tag : Type} {T : Tag → Type} (V : Env T)
variable {P : Program} {n m : Nat} {Γ : Ent} {S : St T} {Z : Nat → Prop} {ρ : Nat → Option (Nat × Nat × Nat)} {a : Act} {w : World}

theorem Abs.congr {V : Env T} {S' : St T} (h : Abs V n m Γ S Z ρ a w) (ht : ∀ t v, look t S'.tmps = some v → look t S.tmps = some v) (hh : ∀ id b, look id S'.heap = some b → look id S.heap = some b) : Abs V n m Γ S' Z ρ a w :=
  { h with
    tmps := fun t v hv => h.tmps t v (ht t v hv)
    own := fun id blk b c hl hr => h.own id blk b c (hh _ _ hl) hr
    inj := fun id id' blk blk' b c c' h1 h2 => h.inj id id' blk blk' b c c' (hh _ _ h1) (hh _ _ h2)
    blk := fun id blk hl => h.blk id blk (hh _ _ hl) }

/-- What one operation comes to that may be carried out in any order. -/
structure PR1 (T : Tag → Type) where
  cs : List Prop
  dst : Option Tmp
  r : AV T
  B : Option (Blk T)

def evP (P : Program) (n m : Nat) (nid : Nat) (ops : Array Oper) (dec : Option Bool) (ora : Option (AV T)) (o : Oper) (S : St T) : Option (PR1 T) :=
  match evG ops o S with
  | none => none
  | some false => some ⟨[], o.dst, .tup [], none⟩
  | some true =>
    match ora with
    | some (.cv (.ron tg xs)) => match evFCall V P S tg xs o with
      | some cs => some ⟨cs, o.dst, .cv (.own tg nid), some (.lst tg xs)⟩
      | none => none
    | some r => match evCall V P S r o with
      | some cs => some ⟨cs, o.dst, r, none⟩
      | none => none
    | none =>
      match evV V P S.heap S.get o with
      | some (cs, r) => match dec with
        | none => some ⟨cs, o.dst, r, none⟩
        | some b => match r with
          | .cv (.lit (.bool x)) => some ⟨cs ++ [x = b], o.dst, .cv (.lit (.bool b)), none⟩
          | _ => none
      | none => match evA V P nid S.get o with
        | some (ps, r, B) => some ⟨ps, o.dst, r, B⟩
        | none => none

theorem evP_sound (L : V.E.Law V.isB V.toB) {nid : Nat} {ops : Array Oper} {dec : Option Bool} {ora : Option (AV T)} {o : Oper} {R : PR1 T}
    (h : evP V P n m nid ops dec ora o S = some R) (hcs : All R.cs) (ha : Abs V n m Γ S Z ρ a w) {K : Act → World → Prop} {Q : Exit → Act → World → Prop}
    (hK : ∀ v w' Z', Onto w w' Z Z' → R.B = none → RA V.E w' Z' ρ R.r v → K (a.put o.dst v) w')
    (hN : ∀ v w' Z' bc B, Onto w w' Z Z' → (∀ b c, bc = some (b, c) → w.heap.size ≤ b ∧ b < w'.heap.size ∧ ¬ Z' b) → R.B = some B → BR V.E w' Z' (updO ρ nid bc) B bc → RA V.E w' Z' (updO ρ nid bc) R.r v → K (a.put o.dst v) w') :
    R.dst = o.dst ∧ if Region.wanted o (yielded ops a.tmps) = true then o.wp P a w K Q else K (a.put o.dst undef) w := by
  unfold evP at h
  split at h
  · cases h
  · rename_i hg
    rw [evG_sound V hg ha]
    cases h
    refine ⟨rfl, ?_⟩
    simp only [Bool.false_eq_true, if_false]
    exact (hK _ _ Z (Onto.refl _ _) rfl (.tup (us := #[]) rfl fun i c v hc => by simp at hc))
  · rename_i hg
    rw [evG_sound V hg ha]
    simp only [if_true]
    split at h
    · split at h
      · rename_i tg xs _ cs0 hc
        cases h
        refine ⟨rfl, evFCall_sound V hc hcs ha fun v w' Z' ho hr => ?_⟩
        rcases hr with ⟨rfl, hx⟩ | ⟨b, cap, h1, h2, h3, rfl, hB⟩
        · exact hN _ _ Z' none _ ho (fun _ _ h => by cases h) rfl hx (.cv (.ownv (by unfold updO; rw [if_pos rfl])))
        · exact hN _ _ Z' (some (b, cap, xs.length)) _ ho (fun _ _ h => by cases h; exact ⟨h1, h2, h3⟩) rfl hB (.cv (.own (by unfold updO; rw [if_pos rfl])))
      · cases h
    · split at h
      · rename_i cs0 hc
        cases h
        exact ⟨rfl, evCall_sound V hc hcs ha fun v w' Z' ho hr => hK _ _ Z' ho rfl hr⟩
      · cases h
    · split at h
      · rename_i cs0 r hv
        split at h
        · cases h
          obtain ⟨v, e1, e2⟩ := evV_sound V L hv hcs ha.get ha.blk
          exact ⟨rfl, wp_value e1 (hK _ _ Z (Onto.refl _ _) rfl e2)⟩
        · rename_i b
          split at h
          · rename_i x
            cases h
            obtain ⟨h1, h2⟩ := hcs.append
            obtain ⟨v, e1, e2⟩ := evV_sound V L hv h1 ha.get ha.blk
            have hx : x = b := h2
            subst hx
            exact ⟨rfl, wp_value e1 (hK _ _ Z (Onto.refl _ _) rfl e2)⟩
          · cases h
      · split at h
        · rename_i ps r B hA
          cases h
          have hs := evA_sound V L (w := w) (Z := Z) (ρ := ρ) hA hcs ha.get ha.Zlt
          cases B with
          | none =>
            obtain ⟨v, w', e1, Z', ho, hr⟩ := hs
            exact ⟨rfl, wp_value e1 (hK _ _ Z' ho rfl hr)⟩
          | some B =>
            obtain ⟨v, w', e1, b, c, hb, h1, h2, hB, hr⟩ := hs
            exact ⟨rfl, wp_value e1 (hN _ _ Z (some (b, c)) B ⟨hb, fun _ h => h, fun _ h => .inl h⟩ (fun _ _ h => by cases h; exact ⟨h1, h2, fun hz => by have := ha.Zlt _ hz; omega⟩) rfl hB hr)⟩
        · cases h

end
end Go.Proofs.Ytjkfadlomchpjaa.Eng

namespace Go.Proofs.Ytjkfadlomchpjaa.Eng
open Go.RowKit (Below)

section
variable {Tag : Type} {T : Tag → Type} (V : Env T)
variable {P : Program} {n m : Nat} {Γ : Ent} {S : St T} {Z : Nat → Prop} {ρ : Nat → Option (Nat × Nat × Nat)} {a : Act} {w : World}

def evPL (P : Program) (n m : Nat) (ops : Array Oper) (base : Nat) (decs : List (Nat × Bool)) (oras : List (Nat × AV T)) (H : List (Nat × Blk T)) : Nat → List Oper → List (Nat × AV T) → Option (List (PR1 T))
  | _, [], _ => some []
  | i, o :: rest, tm => match evP V P n m (base + i) ops (look i decs) (look i oras) o ⟨pickL (o.looksAt ops) tm, H⟩ with
    | some R => match evPL P n m ops base decs oras H (i + 1) rest (match R.dst with | some d => (d, R.r) :: tm | none => tm) with
      | some Rs => some (R :: Rs)
      | none => none
    | none => none

theorem evPL_spec {ops : Array Oper} {base : Nat} {decs : List (Nat × Bool)} {oras : List (Nat × AV T)} {H : List (Nat × Blk T)} : ∀ (l : List Oper) (i0 : Nat) (tm : List (Nat × AV T)) (Rs : List (PR1 T)),
    evPL V P n m ops base decs oras H i0 l tm = some Rs → Rs.length = l.length ∧ ∀ (i : Nat) o, l[i]? = some o → ∃ R tm', Rs[i]? = some R ∧ evP V P n m (base + (i0 + i)) ops (look (i0 + i) decs) (look (i0 + i) oras) o ⟨pickL (o.looksAt ops) tm', H⟩ = some R ∧
      ∀ t v, look t tm' = some v → (∃ j R', j < i ∧ Rs[j]? = some R' ∧ R'.dst = some t ∧ R'.r = v) ∨ (look t tm = some v ∧ ∀ j R', j < i → Rs[j]? = some R' → R'.dst ≠ some t)
  | [], i0, tm, Rs, h => by cases h; exact ⟨rfl, fun i o ho => by simp at ho⟩
  | o' :: rest, i0, tm, Rs, h => by
    unfold evPL at h
    split at h
    · rename_i R hR
      split at h
      · rename_i Rs' hRs
        cases h
        obtain ⟨h1, h2⟩ := evPL_spec rest (i0 + 1) _ Rs' hRs
        refine ⟨by simp [h1], fun i o ho => ?_⟩
        cases i with
        | zero =>
          simp at ho; subst ho
          exact ⟨R, tm, rfl, hR, fun t v hv => .inr ⟨hv, fun j R' hj => by omega⟩⟩
        | succ i =>
          obtain ⟨R2, tm', e1, e2, e3⟩ := h2 i o (by simpa using ho)
          refine ⟨R2, tm', by simpa using e1, by rw [show i0 + (i + 1) = i0 + 1 + i from by omega]; exact e2, fun t v hv => ?_⟩
          rcases e3 t v hv with ⟨j, R', g1, g2, g3, g4⟩ | ⟨g1, g2⟩
          · exact .inl ⟨j + 1, R', by omega, by simpa using g2, g3, g4⟩
          · have hne : R.dst ≠ some t → (look t tm = some v ∧ ∀ j R', j < i + 1 → (R :: Rs')[j]? = some R' → R'.dst ≠ some t) := fun hd => by
              refine ⟨?_, fun j R' hj hR' => ?_⟩
              · cases hdd : R.dst with
                | none => rw [hdd] at g1; exact g1
                | some d =>
                  rw [hdd] at g1
                  simp only at g1
                  rw [look_cons, if_neg (fun e => hd (by rw [hdd, e]))] at g1
                  exact g1
              · cases j with
                | zero => simp at hR'; subst hR'; exact hd
                | succ j => exact g2 j R' (by omega) (by simpa using hR')
            by_cases hd : R.dst = some t
            · left
              rw [hd] at g1
              simp only at g1
              rw [look_cons, if_pos rfl] at g1
              exact ⟨0, R, by omega, rfl, hd, by simpa using g1⟩
            · exact .inr (hne hd)
      · cases h
    · cases h

def dels {α : Type} : List (Option Tmp) → List (Nat × α) → List (Nat × α)
  | [], l => l
  | some d :: ds, l => del d (dels ds l)
  | none :: ds, l => dels ds l

theorem look_dels {α : Type} (t : Nat) : ∀ (ds : List (Option Tmp)) (l : List (Nat × α)), look t (dels ds l) = if some t ∈ ds then none else look t l
  | [], l => by simp [dels]
  | some d :: ds, l => by
    simp only [dels]
    rw [look_del, look_dels t ds l]
    by_cases h : t = d
    · subst h; simp
    · have : ¬ (some t = some d) := fun e => h (by cases e; rfl)
      simp [h]
  | none :: ds, l => by
    simp only [dels]
    rw [look_dels t ds l]
    simp

theorem any_del {α : Type} (p : Nat × α → Bool) (t : Nat) : ∀ (l : List (Nat × α)), l.any p = false → (del t l).any p = false
  | [], h => rfl
  | (s, v) :: l, h => by
    simp only [List.any_cons, Bool.or_eq_false_iff] at h
    unfold del
    cases Nat.beq s t with
    | true => exact any_del p t l h.2
    | false => simp only [cond_false, List.any_cons, h.1, any_del p t l h.2, Bool.or_self]

theorem any_dels {α : Type} (p : Nat × α → Bool) : ∀ (ds : List (Option Tmp)) (l : List (Nat × α)), l.any p = false → (dels ds l).any p = false
  | [], l, h => h
  | some d :: ds, l, h => any_del p d _ (any_dels p ds l h)
  | none :: ds, l, h => any_dels p ds l h

theorem any_bld {α : Type} {p : Nat × α → Bool} {L : Nat → Bool} {f : Nat → Option (Nat × α)} : ∀ {d : Nat}, (∀ i, i < d → L i = true → ∀ e, f i = some e → p e = false) → (bld L f d).any p = false
  | 0, _ => rfl
  | d + 1, h => by
    unfold bld
    have ih := any_bld (d := d) fun i hi => h i (by omega)
    cases hl : L d with
    | false => exact ih
    | true =>
      simp only [cond_true]
      split
      · rename_i e he
        simp only [List.any_cons, h d (by omega) hl e he, ih, Bool.or_self]
      · exact ih

/-- The tests of a region whose first operations may come in any order. -/
def parOk (n m base : Nat) (ops : Array Oper) (S : St T) (Rs : List (PR1 T)) (M : List Nat) : Bool :=
  edgesOk 0 ops.toList && Nat.ble Rs.length ops.size &&
  Rs.all (fun R => dstOk n R.dst) &&
  (Rs.zipIdx.all fun p => Rs.zipIdx.all fun q => Nat.beq p.2 q.2 || (match p.1.dst, q.1.dst with | some x, some y => !Nat.beq x y | _, _ => true)) &&
  ((ops.toList.take Rs.length).zipIdx.all fun p => (p.1.looksAt ops).all fun t => Rs.zipIdx.all fun q => (match q.1.dst with | some y => !Nat.beq y t || (Nat.blt q.2 p.2 && bit M p.2 q.2) | none => true)) &&
  (Rs.zipIdx.all fun q => (match q.1.B with | none => true | some _ => Nat.ble m (base + q.2) && !S.named (base + q.2) && (look (base + q.2) S.heap).isNone &&
    (Rs.zipIdx.all fun p => Nat.beq p.2 q.2 || bit M p.2 q.2 || (!p.1.r.names (base + q.2) && (match p.1.B with | some B => !B.names (base + q.2) | none => true))))) &&
  ((List.range' Rs.length (ops.size - Rs.length)).all fun k => (List.range Rs.length).all fun j => bit M k j) &&
  ((List.range' Rs.length (ops.size - Rs.length)).all fun k => decide (Region.ready .any ops ((Array.range ops.size).map (Nat.blt · k)) = [k]))

def fT (Rs : List (PR1 T)) (i : Nat) : Option (Nat × AV T) := match Rs[i]? with | some R => (match R.dst with | some d => some (d, R.r) | none => none) | none => none
def fB (base : Nat) (Rs : List (PR1 T)) (i : Nat) : Option (Nat × Blk T) := match Rs[i]? with | some R => (match R.B with | some B => some (base + i, B) | none => none) | none => none

/-- The state when those of L have been carried out. -/
def SE (base : Nat) (Rs : List (PR1 T)) (S : St T) (L : Nat → Bool) : St T :=
  ⟨bld L (fT Rs) Rs.length ++ dels (Rs.map (·.dst)) S.tmps, bld L (fB base Rs) Rs.length ++ S.heap⟩

structure ParFacts (n m base : Nat) (ops : Array Oper) (S : St T) (Rs : List (PR1 T)) : Prop where
  edges : edgesOk 0 ops.toList = true
  len : Rs.length ≤ ops.size
  dst : ∀ (i : Nat) (R : PR1 T), Rs[i]? = some R → dstOk n R.dst = true
  apart : ∀ (i j : Nat) (R R' : PR1 T) (t : Nat), Rs[i]? = some R → Rs[j]? = some R' → R.dst = some t → R'.dst = some t → i = j
  reads : ∀ (i : Nat) (o : Oper) (t : Nat) (j : Nat) (R : PR1 T), i < Rs.length → ops[i]? = some o → t ∈ o.looksAt ops → Rs[j]? = some R → R.dst = some t → j < i ∧ bit (befL ops.toList []) i j = true
  news : ∀ (j : Nat) (R : PR1 T) (B : Blk T), Rs[j]? = some R → R.B = some B → m ≤ base + j ∧ S.named (base + j) = false ∧ look (base + j) S.heap = none ∧ ∀ (i : Nat) (R' : PR1 T), Rs[i]? = some R' → i ≠ j → bit (befL ops.toList []) i j = false → R'.r.names (base + j) = false ∧ ∀ B', R'.B = some B' → B'.names (base + j) = false
  late : ∀ k j, Rs.length ≤ k → k < ops.size → j < Rs.length → bit (befL ops.toList []) k j = true
  seq : ∀ k, Rs.length ≤ k → k < ops.size → Region.ready .any ops ((Array.range ops.size).map (Nat.blt · k)) = [k]

theorem parOk_spec {base : Nat} {ops : Array Oper} {Rs : List (PR1 T)} (h : parOk n m base ops S Rs (befL ops.toList []) = true) : ParFacts n m base ops S Rs := by
  unfold parOk at h
  simp only [Bool.and_eq_true] at h
  obtain ⟨⟨⟨⟨⟨⟨⟨h1, h2⟩, h3⟩, h4⟩, h5⟩, h6⟩, h7⟩, h8⟩ := h
  have zi : ∀ {α : Type} {l : List α} {i : Nat} {x : α}, l[i]? = some x → (x, i) ∈ l.zipIdx := fun {α l i x} hx => by
    rw [List.mem_iff_getElem?]
    exact ⟨i, by simp [hx]⟩
  refine ⟨h1, Nat.le_of_ble_eq_true h2, fun i R hR => List.all_eq_true.1 h3 R (List.mem_of_getElem? hR), ?_, ?_, ?_, ?_, ?_⟩
  · intro i j R R' t hi hj hd hd'
    have := List.all_eq_true.1 (List.all_eq_true.1 h4 _ (zi hi)) _ (zi hj)
    simp only [hd, hd', Bool.or_eq_true] at this
    rcases this with e | e
    · exact Nat.eq_of_beq_eq_true e
    · simp at e
  · intro i o t j R hi ho ht hj hd
    have ho' : (ops.toList.take Rs.length)[i]? = some o := by rw [List.getElem?_take, if_pos hi]; simpa using ho
    have := List.all_eq_true.1 (List.all_eq_true.1 (List.all_eq_true.1 h5 _ (zi ho')) t ht) _ (zi hj)
    simp only [hd, Nat.beq_refl, Bool.not_true, Bool.false_or, Bool.and_eq_true] at this
    exact ⟨Nat.le_of_ble_eq_true this.1, this.2⟩
  · intro j R B hj hB
    have := List.all_eq_true.1 h6 _ (zi hj)
    simp only [hB, Bool.and_eq_true, Bool.not_eq_true', Option.isNone_iff_eq_none] at this
    obtain ⟨⟨⟨g1, g2⟩, g0⟩, g3⟩ := this
    refine ⟨Nat.le_of_ble_eq_true g1, g2, g0, fun i R' hi hne hb => ?_⟩
    have := List.all_eq_true.1 g3 _ (zi hi)
    have hbeq : Nat.beq i j = false := by
      cases hh : Nat.beq i j with
      | false => rfl
      | true => exact absurd (Nat.eq_of_beq_eq_true hh) hne
    simp only [hbeq, hb, Bool.false_or, Bool.and_eq_true, Bool.not_eq_true'] at this
    refine ⟨this.1, fun B' hB' => ?_⟩
    have h2 := this.2
    rw [hB'] at h2
    simpa using h2
  · intro k j hk hk' hj
    exact List.all_eq_true.1 (List.all_eq_true.1 h7 k (by simp [List.mem_range']; exact ⟨k - Rs.length, by omega, by omega⟩)) j (by simpa using hj)
  · intro k hk hk'
    exact of_decide_eq_true (List.all_eq_true.1 h8 k (by simp [List.mem_range']; exact ⟨k - Rs.length, by omega, by omega⟩))

end
end Go.Proofs.Ytjkfadlomchpjaa.Eng

namespace Go.Proofs.Ytjkfadlomchpjaa.Eng
open Go.RowKit (Below)

section
variable {Tag : Type} {T : Tag → Type} (V : Env T)
variable {P : Program} {n m : Nat} {Γ : Ent} {S : St T} {Z : Nat → Prop} {ρ : Nat → Option (Nat × Nat × Nat)} {a : Act} {w : World}

theorem look_pickL_mem {α : Type} (t : Nat) : ∀ (ts : List Nat) (l : List (Nat × α)) (v : α), look t (pickL ts l) = some v → t ∈ ts
  | [], l, v, h => by cases h
  | s :: ts, l, v, h => by
    unfold pickL at h
    split at h
    · rw [look_cons] at h
      split at h
      · subst_vars; simp
      · exact List.mem_cons_of_mem _ (look_pickL_mem t ts l v h)
    · exact List.mem_cons_of_mem _ (look_pickL_mem t ts l v h)

theorem fT_some {Rs : List (PR1 T)} {i t : Nat} {v : AV T} : fT Rs i = some (t, v) ↔ ∃ R, Rs[i]? = some R ∧ R.dst = some t ∧ R.r = v := by
  unfold fT
  constructor
  · intro h
    split at h
    · rename_i R hR
      split at h
      · rename_i d hd; cases h; exact ⟨R, hR, hd, rfl⟩
      · cases h
    · cases h
  · rintro ⟨R, h1, h2, h3⟩
    rw [h1]; simp [h2, h3]

theorem fB_some {base : Nat} {Rs : List (PR1 T)} {i t : Nat} {B : Blk T} : fB base Rs i = some (t, B) ↔ ∃ R, Rs[i]? = some R ∧ R.B = some B ∧ t = base + i := by
  unfold fB
  constructor
  · intro h
    split at h
    · rename_i R hR
      split at h
      · rename_i B' hB; cases h; exact ⟨R, hR, hB, rfl⟩
      · cases h
    · cases h
  · rintro ⟨R, h1, h2, h3⟩
    rw [h1]; simp [h2, h3]

variable {base : Nat} {ops : Array Oper} {Rs : List (PR1 T)}

/-- What stands in a temporary when those of L have been carried out. -/
theorem SE_tmps_of {L : Nat → Bool} (hf : ParFacts n m base ops S Rs) {t : Nat} {v : AV T} :
    (∃ i R, L i = true ∧ Rs[i]? = some R ∧ R.dst = some t ∧ R.r = v) ∨ (look t S.tmps = some v ∧ ∀ (i : Nat) R, Rs[i]? = some R → R.dst ≠ some t) → look t (SE base Rs S L).tmps = some v := by
  intro h
  unfold SE
  simp only
  rw [look_append]
  rcases h with ⟨i, R, h1, h2, h3, h4⟩ | ⟨h1, h2⟩
  · rw [look_bld_of (i := i) (fT_some.2 ⟨R, h2, h3, h4⟩) h1 (List.getElem?_eq_some_iff.1 h2).1 (fun j hj hne u hu => by
      obtain ⟨R', g1, g2, g3⟩ := fT_some.1 hu
      exact hne (hf.apart j i R' R t g1 h2 g2 h3))]
    rfl
  · rw [look_bld_none (fun i hi hl u hu => by
      obtain ⟨R', g1, g2, g3⟩ := fT_some.1 hu
      exact h2 i R' g1 g2), look_dels, if_neg (fun hm => by
      obtain ⟨R', g1, g2⟩ := List.mem_map.1 hm
      obtain ⟨i, hi⟩ := List.mem_iff_getElem?.1 g1
      exact h2 i R' hi g2)]
    simpa using h1

theorem SE_tmps {L : Nat → Bool} {t : Nat} {v : AV T} (h : look t (SE base Rs S L).tmps = some v) :
    (∃ i R, L i = true ∧ Rs[i]? = some R ∧ R.dst = some t ∧ R.r = v) ∨ (look t S.tmps = some v ∧ ∀ (i : Nat) R, Rs[i]? = some R → R.dst ≠ some t) := by
  unfold SE at h
  simp only at h
  rw [look_append] at h
  cases hb : look t (bld L (fT Rs) Rs.length) with
  | some u =>
    rw [hb] at h
    simp at h
    subst h
    obtain ⟨i, h1, h2, h3⟩ := look_bld_some hb
    obtain ⟨R, g1, g2, g3⟩ := fT_some.1 h3
    exact .inl ⟨i, R, h2, g1, g2, g3⟩
  | none =>
    rw [hb] at h
    simp only [Option.none_or] at h
    rw [look_dels] at h
    split at h
    · cases h
    · rename_i hm
      exact .inr ⟨h, fun i R hi hd => hm (List.mem_map.2 ⟨R, List.mem_of_getElem? hi, hd⟩)⟩

theorem SE_heap_of {L : Nat → Bool} (hf : ParFacts n m base ops S Rs) {t : Nat} {B : Blk T} :
    (∃ i R, L i = true ∧ Rs[i]? = some R ∧ R.B = some B ∧ t = base + i) ∨ look t S.heap = some B → look t (SE base Rs S L).heap = some B := by
  intro h
  unfold SE
  simp only
  rw [look_append]
  rcases h with ⟨i, R, h1, h2, h3, h4⟩ | h1
  · rw [look_bld_of (i := i) (fB_some.2 ⟨R, h2, h3, h4⟩) h1 (List.getElem?_eq_some_iff.1 h2).1 (fun j hj hne u hu => by
      obtain ⟨R', g1, g2, g3⟩ := fB_some.1 hu
      omega)]
    rfl
  · rw [look_bld_none (fun i hi hl u hu => by
      obtain ⟨R', g1, g2, g3⟩ := fB_some.1 hu
      have := (hf.news i R' u g1 g2).2.2.1
      rw [← g3, h1] at this
      cases this)]
    simpa using h1

theorem SE_heap {L : Nat → Bool} {t : Nat} {B : Blk T} (h : look t (SE base Rs S L).heap = some B) :
    (∃ i R, L i = true ∧ Rs[i]? = some R ∧ R.B = some B ∧ t = base + i) ∨ look t S.heap = some B := by
  unfold SE at h
  simp only at h
  rw [look_append] at h
  cases hb : look t (bld L (fB base Rs) Rs.length) with
  | some u =>
    rw [hb] at h
    simp at h
    subst h
    obtain ⟨i, h1, h2, h3⟩ := look_bld_some hb
    obtain ⟨R, g1, g2, g3⟩ := fB_some.1 h3
    exact .inl ⟨i, R, h2, g1, g2, g3⟩
  | none =>
    rw [hb] at h
    exact .inr (by simpa using h)

def newB (S : St T) (id : Nat) : Option (Blk T) → St T
  | none => S
  | some B => S.new id B

theorem newB_tmps (S : St T) (id : Nat) (B : Option (Blk T)) : (newB S id B).tmps = S.tmps := by cases B <;> rfl
theorem put_heap (S : St T) (d : Option Tmp) (r : AV T) : (S.put d r).heap = S.heap := by cases d <;> rfl

theorem SE_step (hf : ParFacts n m base ops S Rs) {L : Nat → Bool} {i : Nat} {R : PR1 T} (hR : Rs[i]? = some R) :
    (∀ t v, look t (SE base Rs S (fun k => if k = i then true else L k)).tmps = some v → look t ((newB (SE base Rs S L) (base + i) R.B).put R.dst R.r).tmps = some v) ∧
    (∀ id b, look id (SE base Rs S (fun k => if k = i then true else L k)).heap = some b → look id ((newB (SE base Rs S L) (base + i) R.B).put R.dst R.r).heap = some b) := by
  constructor
  · intro t v h
    have hput : ∀ (S' : St T), look t (S'.put R.dst R.r).tmps = if R.dst = some t then some R.r else look t S'.tmps := fun S' => by
      cases hd : R.dst with
      | none => simp [St.put]
      | some d =>
        simp only [St.put]
        rw [look_cons]
        by_cases ht : t = d
        · subst ht; simp
        · rw [if_neg ht, look_del, if_neg ht, if_neg (fun e => ht (by cases e; rfl))]
    rw [hput, newB_tmps]
    rcases SE_tmps h with ⟨j, R', h1, h2, h3, h4⟩ | ⟨h1, h2⟩
    · by_cases hj : j = i
      · subst hj
        rw [hR] at h2; cases h2
        rw [if_pos h3, h4]
      · rw [if_neg hj] at h1
        rw [if_neg (fun e => hj (hf.apart j i R' R t h2 hR h3 e))]
        exact SE_tmps_of hf (.inl ⟨j, R', h1, h2, h3, h4⟩)
    · rw [if_neg (h2 i R hR)]
      exact SE_tmps_of hf (.inr ⟨h1, h2⟩)
  · intro id b h
    rw [put_heap]
    cases hB : R.B with
    | none =>
      simp only [newB]
      rcases SE_heap h with ⟨j, R', h1, h2, h3, h4⟩ | h1
      · by_cases hj : j = i
        · subst hj; rw [hR] at h2; cases h2; rw [hB] at h3; cases h3
        · rw [if_neg hj] at h1
          exact SE_heap_of hf (.inl ⟨j, R', h1, h2, h3, h4⟩)
      · exact SE_heap_of hf (.inr h1)
    | some B =>
      simp only [newB, St.new]
      rw [look_cons]
      rcases SE_heap h with ⟨j, R', h1, h2, h3, h4⟩ | h1
      · by_cases hj : j = i
        · subst hj; rw [hR] at h2; cases h2; rw [hB] at h3; cases h3
          rw [if_pos h4]
        · rw [if_neg hj] at h1
          rw [if_neg (by omega), look_del, if_neg (by omega)]
          exact SE_heap_of hf (.inl ⟨j, R', h1, h2, h3, h4⟩)
      · by_cases hid : id = base + i
        · have := (hf.news i R B hR hB).2.2.1
          rw [← hid, h1] at this
          cases this
        · rw [if_neg hid, look_del, if_neg hid]
          exact SE_heap_of hf (.inr h1)

/-- The tail, in its order. -/
theorem wpAny_seq (L : V.E.Law V.isB V.toB) {decs : List (Nat × Bool)} {oras : List (Nat × AV T)} {Q : Exit → Act → World → Prop} (d : Nat) (hseq : ∀ k, d ≤ k → k < ops.size → Region.ready .any ops ((Array.range ops.size).map (Nat.blt · k)) = [k]) :
    ∀ (j k : Nat), j + k = ops.size → d ≤ k → ∀ (S : St T) (Z : Nat → Prop) (ρ : Nat → Option (Nat × Nat × Nat)) (a : Act) (w : World) (cs : List Prop) (S2 : St T), evList V P n m ops base decs oras k (ops.toList.drop k) S = some (cs, S2) → All cs → Abs V n m Γ S Z ρ a w →
      (∀ a' w' Z' ρ', Abs V n m Γ S2 Z' ρ' a' w' → Q .normal a' w') → wpAny P .any ops Q j ((Array.range ops.size).map (Nat.blt · k)) a w := by
  intro j
  induction j with
  | zero =>
    intro k hk hd S Z ρ a w cs S2 he hcs ha hQ
    have : ops.toList.drop k = [] := List.drop_eq_nil_of_le (by simp; omega)
    rw [this] at he
    cases he
    refine ⟨?_, hQ _ _ _ _ ha⟩
    unfold Region.ready
    rw [List.filter_eq_nil_iff]
    intro i hi
    simp only [List.mem_range] at hi
    have : ((Array.range ops.size).map (Nat.blt · k)).getD i true = true := by
      rw [Array.getD_eq_getD_getElem?]
      simp [hi]
      omega
    simp [this]
  | succ j ih =>
    intro k hk hd S Z ρ a w cs S2 he hcs ha hQ
    have hlt : k < ops.size := by omega
    have hr := hseq k hd hlt
    refine ⟨fun h => (by rw [hr] at h; cases h), fun i hi => ?_⟩
    rw [hr] at hi
    simp at hi
    subst hi
    have hdrop : ops.toList.drop i = ops[i] :: ops.toList.drop (i + 1) := by
      rw [List.drop_eq_getElem_cons (by simpa using hlt)]
      simp
    rw [hdrop] at he
    unfold evList at he
    split at he
    · rename_i cs1 S1 h1
      split at he
      · rename_i cs2 S3 h2
        cases he
        obtain ⟨hc1, hc2⟩ := hcs.append
        have hpre : ((Array.range ops.size).map (Nat.blt · i)).setIfInBounds i true = (Array.range ops.size).map (Nat.blt · (i + 1)) := by
          apply Array.ext_getElem?
          intro p
          rw [Array.getElem?_setIfInBounds]
          by_cases hp : i = p
          · subst hp
            have hb : Nat.blt i (i + 1) = true := Nat.ble_eq_true_of_le (by omega)
            simp [hlt]
          · rw [if_neg hp]
            by_cases hps : p < ops.size
            · have hb : Nat.blt p i = Nat.blt p (i + 1) := by
                cases hb : Nat.blt p i with
                | true => exact (Nat.ble_eq_true_of_le (by have := Nat.le_of_ble_eq_true hb; omega)).symm
                | false =>
                  cases hb' : Nat.blt p (i + 1) with
                  | false => rfl
                  | true =>
                    have h3 := Nat.le_of_ble_eq_true hb'
                    have : Nat.blt p i = true := Nat.ble_eq_true_of_le (by omega)
                    rw [hb] at this; cases this
              simp [hps, hb]
            · simp [hps]
        have := evOp_sound V L (K := wpAny P .any ops Q j (((Array.range ops.size).map (Nat.blt · i)).setIfInBounds i true)) (Q := Q) h1 hc1 ha fun a' w' Z' ρ' ha' => by
          rw [hpre]
          exact ih (i + 1) (by omega) (by omega) S1 Z' ρ' a' w' cs2 S2 h2 hc2 ha' hQ
        unfold wpOp
        rw [Array.getElem?_eq_getElem hlt]
        simp only
        split
        · rename_i hw; rw [if_pos hw] at this; exact .inl this
        · rename_i hw; rw [if_neg hw] at this; exact this
      · cases he
    · cases he

theorem count_set : ∀ (l : List Bool) (i : Nat), l[i]? = some false → ((l.set i true).filter (!·)).length + 1 = (l.filter (!·)).length
  | [], i, h => by simp at h
  | b :: l, 0, h => by simp at h; subst h; simp
  | b :: l, i + 1, h => by
    have := count_set l i (by simpa using h)
    cases b <;> simp [List.filter_cons] <;> simpa using this

theorem evP_dst {nid : Nat} {ops : Array Oper} {dec : Option Bool} {ora : Option (AV T)} {o : Oper} {S : St T} {R : PR1 T} (h : evP V P n m nid ops dec ora o S = some R) : R.dst = o.dst := by
  unfold evP at h
  repeat' (split at h)
  all_goals first
    | (cases h; done)
    | (cases h; rfl)

theorem wpAny_par (L : V.E.Law V.isB V.toB) {decs : List (Nat × Bool)} {oras : List (Nat × AV T)} {Q : Exit → Act → World → Prop} (hf : ParFacts n m base ops S Rs)
    (hRs : evPL V P n m ops base decs oras S.heap 0 (ops.toList.take Rs.length) S.tmps = some Rs) (hcs : ∀ R ∈ Rs, All R.cs)
    {cs2 : List Prop} {S2 : St T} (hsuf : evList V P n m ops base decs oras Rs.length (ops.toList.drop Rs.length) (SE base Rs S (fun _ => true)) = some (cs2, S2)) (hcs2 : All cs2)
    (hQ : ∀ a' w' Z' ρ', Abs V n m Γ S2 Z' ρ' a' w' → Q .normal a' w') :
    ∀ (fuel : Nat) (listed : Array Bool) (a : Act) (w : World) (Z : Nat → Prop) (ρ : Nat → Option (Nat × Nat × Nat)), listed.size = ops.size → (listed.toList.filter (!·)).length = fuel →
      (∀ i o, ops[i]? = some o → listed.getD i false = true → ∀ e ∈ o.after, Region.binds .any e = true → listed.getD e.on false = true) →
      (∀ k, Rs.length ≤ k → listed.getD k false = false) → Abs V n m Γ (SE base Rs S (fun i => listed.getD i false)) Z ρ a w → wpAny P .any ops Q fuel listed a w := by
  intro fuel
  induction fuel with
  | zero =>
    intro listed a w Z ρ hsz hcnt hcl hsufl ha
    have hall : ∀ i, i < ops.size → listed.getD i false = true := fun i hi => by
      have h1 := List.eq_nil_of_length_eq_zero hcnt
      rw [List.filter_eq_nil_iff] at h1
      have hlt : i < listed.size := by omega
      have := h1 listed[i] (Array.mem_toList_iff.2 (Array.getElem_mem hlt))
      simp only [Array.getD, hlt, dif_pos]
      simpa using this
    have hlen : ops.size ≤ Rs.length := by
      rcases Nat.lt_or_ge Rs.length ops.size with h | h
      · have h1 := hall _ h
        rw [hsufl _ (Nat.le_refl _)] at h1; cases h1
      · exact h
    refine ⟨?_, ?_⟩
    · unfold Region.ready
      rw [List.filter_eq_nil_iff]
      intro i hi
      simp only [List.mem_range] at hi
      have h1 := hall i hi
      have hlt : i < listed.size := by omega
      have : listed.getD i true = true := by
        simp only [Array.getD, hlt, dif_pos] at h1 ⊢; exact h1
      simp [this]
    · have : ops.toList.drop Rs.length = [] := List.drop_eq_nil_of_le (by simp; omega)
      rw [this] at hsuf
      cases hsuf
      refine hQ _ _ Z ρ (ha.congr (fun t v h => ?_) (fun id b h => ?_))
      · rcases SE_tmps h with ⟨i, R, _, h2, h3, h4⟩ | h1
        · exact SE_tmps_of hf (.inl ⟨i, R, hall i (by have := (List.getElem?_eq_some_iff.1 h2).1; have := hf.len; omega), h2, h3, h4⟩)
        · exact SE_tmps_of hf (.inr h1)
      · rcases SE_heap h with ⟨i, R, _, h2, h3, h4⟩ | h1
        · exact SE_heap_of hf (.inl ⟨i, R, hall i (by have := (List.getElem?_eq_some_iff.1 h2).1; have := hf.len; omega), h2, h3, h4⟩)
        · exact SE_heap_of hf (.inr h1)
  | succ fuel ih =>
    intro listed a w Z ρ hsz hcnt hcl hsufl ha
    by_cases hpre : ∀ i, i < Rs.length → listed.getD i false = true
    · -- the tail
      have hlist : listed = (Array.range ops.size).map (Nat.blt · Rs.length) := by
        apply Array.ext
        · simpa using hsz
        · intro p hp1 hp2
          simp only [Array.getElem_map, Array.getElem_range]
          have hg : listed.getD p false = listed[p] := by simp [Array.getD, hp1]
          by_cases hp : p < Rs.length
          · rw [← hg, hpre p hp]; exact (Nat.ble_eq_true_of_le hp).symm
          · rw [← hg, hsufl p (by omega)]
            cases hb : Nat.blt p Rs.length with
            | false => rfl
            | true => exact absurd (Nat.le_of_ble_eq_true hb) hp
      have hcount : fuel + 1 + Rs.length = ops.size := by
        have key : ∀ (N d : Nat), d ≤ N → (((Array.range N).map (Nat.blt · d)).toList.filter (!·)).length + d = N := by
          intro N
          induction N with
          | zero => intro d hd; simp at hd; subst hd; simp
          | succ N ihN =>
            intro d hd
            rw [Array.range_succ]
            simp only [Array.map_append, Array.toList_append, List.filter_append, List.length_append]
            by_cases hdN : d ≤ N
            · have h1 := ihN d hdN
              have : Nat.blt N d = false := by
                cases hb : Nat.blt N d with
                | false => rfl
                | true => have := Nat.le_of_ble_eq_true hb; omega
              simp only [List.map_toArray, List.map_cons, List.map_nil, this]
              simp at h1 ⊢
              omega
            · have hdN' : d = N + 1 := by omega
              subst hdN'
              have h0 : ((Array.range N).map (Nat.blt · (N + 1))).toList.filter (!·) = [] := by
                rw [List.filter_eq_nil_iff]
                intro b hb
                simp only [Array.toList_map, List.mem_map] at hb
                obtain ⟨x, hx, rfl⟩ := hb
                have hx' : x < N := by simpa using hx
                have : Nat.blt x (N + 1) = true := Nat.ble_eq_true_of_le (by omega)
                simp [this]
              rw [h0]
              have : Nat.blt N (N + 1) = true := Nat.ble_eq_true_of_le (by omega)
              simp [this]
        have := key ops.size Rs.length hf.len
        rw [← hlist] at this
        omega
      rw [hlist]
      refine wpAny_seq V L Rs.length hf.seq (fuel + 1) Rs.length hcount (Nat.le_refl _) _ Z ρ a w cs2 S2 hsuf hcs2 (ha.congr (fun t v h => ?_) (fun id b h => ?_)) hQ
      · rcases SE_tmps h with ⟨i, R, _, h2, h3, h4⟩ | h1
        · exact SE_tmps_of hf (.inl ⟨i, R, hpre i (List.getElem?_eq_some_iff.1 h2).1, h2, h3, h4⟩)
        · exact SE_tmps_of hf (.inr h1)
      · rcases SE_heap h with ⟨i, R, _, h2, h3, h4⟩ | h1
        · exact SE_heap_of hf (.inl ⟨i, R, hpre i (List.getElem?_eq_some_iff.1 h2).1, h2, h3, h4⟩)
        · exact SE_heap_of hf (.inr h1)
    · -- one of the first
      have hex : ∃ j, j < Rs.length ∧ listed.getD j false = false := by
        refine Classical.byContradiction fun hno => hpre fun i hi => ?_
        cases hh : listed.getD i false with
        | true => rfl
        | false => exact absurd ⟨i, hi, hh⟩ hno
      refine ⟨fun hnil => ?_, fun i hi => ?_⟩
      · -- the least one that is not listed may come up
        exfalso
        have hmin : ∀ N j, j ≤ N → j < Rs.length → listed.getD j false = false → False := by
          intro N
          induction N using Nat.strongRecOn with
          | _ N ihN =>
            intro j hj hjl hjf
            have hjs : j < ops.size := by have := hf.len; omega
            by_cases hall : ∀ e ∈ ops[j].after, Region.binds .any e = true → listed.getD e.on false = true
            · have : j ∈ Region.ready .any ops listed := mem_ready.2 ⟨by
                have hlt : j < listed.size := by omega
                simp only [Array.getD, hlt, dif_pos] at hjf ⊢; exact hjf, ops[j], Array.getElem?_eq_getElem hjs, hall⟩
              rw [hnil] at this; cases this
            · have : ∃ e, e ∈ ops[j].after ∧ Region.binds .any e = true ∧ listed.getD e.on false = false := by
                refine Classical.byContradiction fun hno => hall fun e he hb => ?_
                cases hh : listed.getD e.on false with
                | true => rfl
                | false => exact absurd ⟨e, he, hb, hh⟩ hno
              obtain ⟨e, he, hb, hef⟩ := this
              have hlt := edgesOk_spec ops.toList 0 j ops[j] hf.edges (by simp [hjs]) e he hb
              exact ihN e.on (by omega) e.on (Nat.le_refl _) (by omega) hef
        obtain ⟨j, hj, hjf⟩ := hex
        exact hmin j j (Nat.le_refl _) hj hjf
      · obtain ⟨hun, o, ho, hall⟩ := mem_ready.1 hi
        have his : i < ops.size := (Array.getElem?_eq_some_iff.1 ho).1
        have hlt : i < listed.size := by omega
        have hun' : listed.getD i false = false := by
          simp only [Array.getD, hlt, dif_pos] at hun ⊢; exact hun
        have hbef := bef_listed hf.edges (listed := fun k => listed.getD k false) hcl i o ho hall
        have hid : i < Rs.length := by
          rcases Nat.lt_or_ge i Rs.length with h | h
          · exact h
          · obtain ⟨j, hj, hjf⟩ := hex
            have := hbef j (hf.late i j h his hj)
            rw [hjf] at this; cases this
        obtain ⟨hlenR, hspec⟩ := evPL_spec V _ 0 _ Rs hRs
        obtain ⟨R, tm', hR, hev, htm⟩ := hspec i o (by rw [List.getElem?_take, if_pos hid]; simpa using ho)
        simp only [Nat.zero_add] at hev
        -- the small state that the operation looks at
        have hsmall : Abs V n m Γ ⟨pickL (o.looksAt ops) tm', S.heap⟩ Z ρ a w := by
          refine ha.congr (fun t v h => ?_) (fun id b h => SE_heap_of hf (.inr h))
          have hmem := look_pickL_mem t _ _ _ h
          rcases htm t v (look_pickL t _ _ _ h) with ⟨j, R', hj, g1, g2, g3⟩ | ⟨g1, g2⟩
          · exact SE_tmps_of hf (.inl ⟨j, R', hbef j (hf.reads i o t j R' hid ho hmem g1 g2).2, g1, g2, g3⟩)
          · exact SE_tmps_of hf (.inr ⟨g1, fun j R' hj hd => by
              have := (hf.reads i o t j R' hid ho hmem hj hd).1
              exact g2 j R' this hj hd⟩)
        -- the others
        have hset : ∀ k, (listed.setIfInBounds i true).getD k false = if k = i then true else listed.getD k false := fun k => by
          rw [Array.getD_eq_getD_getElem?, Array.getD_eq_getD_getElem?, Array.getElem?_setIfInBounds]
          by_cases hk : i = k
          · subst hk; simp [hlt]
          · rw [if_neg hk, if_neg (fun e => hk e.symm)]
        have hnext : ∀ a' w' Z' ρ', Abs V n m Γ ((newB (SE base Rs S (fun k => listed.getD k false)) (base + i) R.B).put R.dst R.r) Z' ρ' a' w' → wpAny P .any ops Q fuel (listed.setIfInBounds i true) a' w' := by
          intro a' w' Z' ρ' ha'
          refine ih _ a' w' Z' ρ' (by simpa using hsz) ?_ ?_ ?_ ?_
          · have := count_set listed.toList i (by
              simp only [Array.getD, hlt, dif_pos] at hun'
              simp [hlt]; exact hun')
            rw [Array.toList_setIfInBounds]
            omega
          · intro k o' ho' hk e he hb
            rw [hset] at hk ⊢
            by_cases hki : k = i
            · subst hki
              rw [ho] at ho'; cases ho'
              split
              · rfl
              · exact hall e he hb
            · rw [if_neg hki] at hk
              split
              · rfl
              · exact hcl k o' ho' hk e he hb
          · intro k hk
            rw [hset, if_neg (by omega)]
            exact hsufl k hk
          · obtain ⟨s1, s2⟩ := SE_step (L := fun k => listed.getD k false) hf hR
            have : (fun k => (listed.setIfInBounds i true).getD k false) = fun k => if k = i then true else listed.getD k false := funext hset
            rw [this]
            exact ha'.congr s1 s2
        obtain ⟨hdst, hgo⟩ := evP_sound V L (K := wpAny P .any ops Q fuel (listed.setIfInBounds i true)) (Q := Q) hev (hcs R (List.mem_of_getElem? hR)) hsmall
          (fun v w' Z' honto hB hr => by
            refine hnext _ _ Z' ρ ?_
            rw [hB]
            have hd := hf.dst i R hR
            have := (ha.onto honto).put hd hr
            have e : R.dst = o.dst := evP_dst V hev
            rw [← e]
            exact this)
          (fun v w' Z' bc B honto hbc hB hBR hr => by
            refine hnext _ _ Z' (updO ρ (base + i) bc) ?_
            rw [hB]
            have hd := hf.dst i R hR
            obtain ⟨g1, g2, g0, g3⟩ := hf.news i R B hR hB
            have hfresh : (SE base Rs S (fun k => listed.getD k false)).named (base + i) = false := by
              unfold St.named SE
              simp only [List.any_append, Bool.or_eq_false_iff]
              unfold St.named at g2
              simp only [Bool.or_eq_false_iff] at g2
              refine ⟨⟨any_bld fun k hk hl e he => ?_, any_dels _ _ _ g2.1⟩, any_bld fun k hk hl e he => ?_, g2.2⟩
              · obtain ⟨t, u⟩ := e
                obtain ⟨R', f1, f2, f3⟩ := fT_some.1 he
                have hne : k ≠ i := fun e => by subst e; simp only [hun'] at hl; cases hl
                have hb : bit (befL ops.toList []) k i = false := by
                  cases hb : bit (befL ops.toList []) k i with
                  | false => rfl
                  | true =>
                    have hks : k < ops.size := by have := hf.len; omega
                    have := bef_listed hf.edges (listed := fun k => listed.getD k false) hcl k _ (Array.getElem?_eq_getElem hks) (hcl k _ (Array.getElem?_eq_getElem hks) hl) i hb
                    simp only [hun'] at this; cases this
                have := (g3 k R' f1 hne hb).1
                rw [← f3]; exact this
              · obtain ⟨t, u⟩ := e
                obtain ⟨R', f1, f2, f3⟩ := fB_some.1 he
                have hne : k ≠ i := fun e => by subst e; simp only [hun'] at hl; cases hl
                have hb : bit (befL ops.toList []) k i = false := by
                  cases hb : bit (befL ops.toList []) k i with
                  | false => rfl
                  | true =>
                    have hks : k < ops.size := by have := hf.len; omega
                    have := bef_listed hf.edges (listed := fun k => listed.getD k false) hcl k _ (Array.getElem?_eq_getElem hks) (hcl k _ (Array.getElem?_eq_getElem hks) hl) i hb
                    simp only [hun'] at this; cases this
                exact (g3 k R' f1 hne hb).2 u f2
            have := ((ha.onto honto).claim V g1 hfresh (fun b c he => by
              obtain ⟨e1, e2, e3⟩ := hbc b c he
              refine ⟨e2, e3, .inl (Nat.le_trans ha.hsize e1), fun k blk c' hk hl hr => ?_⟩
              have := (ha.own k blk b c' hl hr).1
              omega) hBR).put hd hr
            have e : R.dst = o.dst := evP_dst V hev
            rw [← e]
            exact this)
        unfold wpOp
        rw [ho]
        simp only
        split
        · rename_i hw; rw [if_pos hw] at hgo; exact .inl hgo
        · rename_i hw; rw [if_neg hw] at hgo; exact hgo

/-- A region whose order is drawn: the first d operations in any order, the others in theirs. -/
def evDraw (P : Program) (n m : Nat) (ops : Array Oper) (base : Nat) (decs : List (Nat × Bool)) (oras : List (Nat × AV T)) (d : Nat) (S : St T) : Option (List Prop × St T) :=
  match evPL V P n m ops base decs oras S.heap 0 (ops.toList.take d) S.tmps with
  | some Rs => bif Nat.beq Rs.length d && parOk n m base ops S Rs (befL ops.toList []) then
      (match evList V P n m ops base decs oras d (ops.toList.drop d) (SE base Rs S (fun _ => true)) with
      | some (cs2, S2) => some (Rs.flatMap (·.cs) ++ cs2, S2)
      | none => none) else none
  | none => none

variable {V} {Q : Exit → St T → Prop}

theorem awp_draw (L : V.E.Law V.isB V.toB) (hm : P.follows .mixedOrders = true) {id : Nat} {ops : Array Oper} (base : Nat) (decs : List (Nat × Bool)) (oras : List (Nat × AV T)) (d : Nat) (ts ids : List Nat) {cs : List Prop} {S' : St T}
    (h : (evDraw V P n m ops base decs oras d S).map (fun p => (p.1, (p.2.keep ts ids).co S')) = some (cs, S')) (hcs : All cs) (hQ : Q .normal S') : AWp V P n m Γ (.region id ops true) Q S := by
  intro Z ρ a w ha
  rw [Option.map_eq_some_iff] at h
  obtain ⟨⟨cs0, S2⟩, h1, h2⟩ := h
  simp only [Prod.mk.injEq] at h2
  obtain ⟨rfl, hk⟩ := h2
  unfold evDraw at h1
  split at h1
  · rename_i Rs hRs
    cases hb : (Nat.beq Rs.length d && parOk n m base ops S Rs (befL ops.toList [])) with
    | false => rw [hb] at h1; cases h1
    | true =>
      rw [hb] at h1
      simp only [Bool.and_eq_true] at hb
      have hd := Nat.eq_of_beq_eq_true hb.1
      subst hd
      have hf := parOk_spec hb.2
      simp only [cond_true] at h1
      split at h1
      · rename_i cs2 S3 hsuf
        cases h1
        obtain ⟨hc1, hc2⟩ := hcs.append
        refine wp_region_any hm ?_
        have ha' : Abs V n m Γ S Z ρ a w.drew := ha.onto ⟨(Below.refl _ _).drew, fun _ h => h, fun _ h => .inl h⟩
        refine wpAny_par V L (decs := decs) (oras := oras) hf hRs (fun R hR => All.of_mem fun p hp => hc1.mem p (List.mem_flatMap.2 ⟨R, hR, hp⟩)) hsuf hc2 (fun a' w' Z' ρ' h' => ⟨_, Z', ρ', hQ, hk ▸ (h'.keep ts ids).co V S'⟩)
          ops.size (Array.replicate ops.size false) a _ Z ρ (by simp) ?_ ?_ ?_ ?_
        · simp
        · intro i o ho hi
          have hi' : i < ops.size := (Array.getElem?_eq_some_iff.1 ho).1
          rw [Array.getD_eq_getD_getElem?] at hi
          simp [hi'] at hi
        · intro k hk
          rw [Array.getD_eq_getD_getElem?]
          by_cases hk' : k < ops.size <;> simp [hk']
        · refine ha'.congr (fun t v hv => ?_) (fun id b hv => ?_)
          · rcases SE_tmps hv with ⟨i, R, h1, h2, _⟩ | ⟨h1, _⟩
            · rw [Array.getD_eq_getD_getElem?] at h1
              by_cases hk' : i < ops.size <;> simp [hk'] at h1
            · exact h1
          · rcases SE_heap hv with ⟨i, R, h1, h2, _⟩ | h1
            · rw [Array.getD_eq_getD_getElem?] at h1
              by_cases hk' : i < ops.size <;> simp [hk'] at h1
            · exact h1
      · cases h1
  · cases h1

end
end Go.Proofs.Ytjkfadlomchpjaa.Eng

namespace Go.Proofs.Ytjkfadlomchpjaa.Eng
open Go.RowKit (Below)

/-! #### how a type's values stand as cells, and back -/
structure Codec {Tag : Type} (T : Tag → Type) (α : Type) where
  sz : Nat
  k : α → List (CV T)
  p : List (CV T) → Option (List Prop × α × List (CV T))
  klen : ∀ x, (k x).length = sz
  ok : ∀ cs ps x rest, p cs = some (ps, x, rest) → All ps → ∀ (j : Nat), j < sz → ∀ c, (k x)[j]? = some c → ∃ d, cs[j]? = some d ∧ ∀ (E : Enc T) w Z ρ v, RC E w Z ρ d v → PR E w Z c v
  rest : ∀ cs ps x rest, p cs = some (ps, x, rest) → rest = cs.drop sz

section
variable {Tag : Type} {T : Tag → Type}

def isPure : CV T → Bool
  | .lit _ | .str _ | .any | .ro _ _ => true
  | _ => false

theorem pure_of {E : Enc T} {w : World} {Z : Nat → Prop} {ρ : Nat → Option (Nat × Nat × Nat)} {c : CV T} {v : Value} (hc : isPure c = true) (h : RC E w Z ρ c v) : PR E w Z c v := by
  cases h with
  | pure h => exact h
  | _ => cases hc

def Codec.int (k : IntKind) : Codec T Int where
  sz := 1
  k n := [.lit (.int k n)]
  p
    | .lit (.int k' n) :: rest => match decEq k' k with | .isTrue _ => some ([], n, rest) | .isFalse _ => none
    | _ => none
  klen _ := rfl
  ok := by
    intro cs ps x rest h _ j hj c hc
    have : j = 0 := by omega
    subst this
    split at h
    · split at h
      · rename_i hk _
        cases h
        subst hk
        simp at hc
        subst hc
        exact ⟨_, rfl, fun E w Z ρ v h => pure_of rfl h⟩
      · cases h
    · cases h
  rest := by
    intro cs ps x rest h
    split at h
    · split at h
      · cases h; rfl
      · cases h
    · cases h

def Codec.byte : Codec T UInt8 where
  sz := 1
  k b := [.lit (.int .u8 b.toNat)]
  p
    | .lit (.int .u8 n) :: rest => some ([0 ≤ n, n < 256], UInt8.ofNat n.toNat, rest)
    | _ => none
  klen _ := rfl
  ok := by
    intro cs ps x rest h hps j hj c hc
    have : j = 0 := by omega
    subst this
    split at h
    · rename_i n _
      cases h
      obtain ⟨h0, h1⟩ := hps
      replace h1 : n < 256 := h1
      simp at hc
      subst hc
      refine ⟨_, rfl, fun E w Z ρ v h => ?_⟩
      rw [show max n 0 % 256 = n from by omega]
      exact pure_of rfl h
    · cases h
  rest := by
    intro cs ps x rest h
    split at h
    · cases h; rfl
    · cases h

def Codec.bool : Codec T Bool where
  sz := 1
  k b := [.lit (.bool b)]
  p
    | .lit (.bool b) :: rest => some ([], b, rest)
    | _ => none
  klen _ := rfl
  ok := by
    intro cs ps x rest h _ j hj c hc
    have : j = 0 := by omega
    subst this
    split at h
    · cases h
      simp at hc
      subst hc
      exact ⟨_, rfl, fun E w Z ρ v h => pure_of rfl h⟩
    · cases h
  rest := by
    intro cs ps x rest h
    split at h
    · cases h; rfl
    · cases h

def Codec.str : Codec T (List UInt8) where
  sz := 1
  k b := [.str b]
  p
    | .str b :: rest => some ([], b, rest)
    | _ => none
  klen _ := rfl
  ok := by
    intro cs ps x rest h _ j hj c hc
    have : j = 0 := by omega
    subst this
    split at h
    · cases h
      simp at hc
      subst hc
      exact ⟨_, rfl, fun E w Z ρ v h => pure_of rfl h⟩
    · cases h
  rest := by
    intro cs ps x rest h
    split at h
    · cases h; rfl
    · cases h

def Codec.sl [DecidableEq Tag] (t : Tag) : Codec T (List (T t)) where
  sz := 1
  k l := [.ro t l]
  p
    | .ro t' l :: rest => match decEq t' t with | .isTrue h => some ([], h ▸ l, rest) | .isFalse _ => none
    | .lit (.slice none 0 0) :: rest => some ([], [], rest)
    | _ => none
  klen _ := rfl
  ok := by
    intro cs ps x rest h _ j hj c hc
    have : j = 0 := by omega
    subst this
    split at h
    · split at h
      · rename_i hk _
        cases h
        subst hk
        simp at hc
        subst hc
        exact ⟨_, rfl, fun E w Z ρ v h => pure_of rfl h⟩
      · cases h
    · cases h
      simp at hc
      subst hc
      refine ⟨_, rfl, fun E w Z ρ v h => ?_⟩
      cases h with
      | pure h => cases h with | lit _ => exact .ronil _ _ _
    · cases h
  rest := by
    intro cs ps x rest h
    split at h
    · split at h
      · cases h; rfl
      · cases h
    · cases h; rfl
    · cases h

def Codec.unit : Codec T Unit where
  sz := 0
  k _ := []
  p cs := some ([], (), cs)
  klen _ := rfl
  ok := by intro cs ps x rest h _ j hj; omega
  rest := by intro cs ps x rest h; cases h; simp

def Codec.pair {α β : Type} (a : Codec T α) (b : Codec T β) : Codec T (α × β) where
  sz := a.sz + b.sz
  k x := a.k x.1 ++ b.k x.2
  p cs := match a.p cs with
    | some (ps, x, r) => match b.p r with
      | some (qs, y, r') => some (ps ++ qs, (x, y), r')
      | none => none
    | none => none
  klen x := by simp [a.klen, b.klen]
  ok := by
    intro cs ps x rest h hps j hj c hc
    split at h
    · rename_i p1 x1 r1 h1
      split at h
      · rename_i p2 x2 r2 h2
        cases h
        obtain ⟨g1, g2⟩ := hps.append
        by_cases hlt : j < a.sz
        · rw [List.getElem?_append_left (by rw [a.klen]; exact hlt)] at hc
          exact a.ok _ _ _ _ h1 g1 j hlt c hc
        · rw [List.getElem?_append_right (by rw [a.klen]; omega), a.klen] at hc
          obtain ⟨d, hd, hr⟩ := b.ok _ _ _ _ h2 g2 (j - a.sz) (by omega) c hc
          rw [a.rest _ _ _ _ h1, List.getElem?_drop] at hd
          exact ⟨d, by rw [← hd]; congr 1; omega, hr⟩
      · cases h
    · cases h
  rest := by
    intro cs ps x rest h
    split at h
    · rename_i p1 x1 r1 h1
      split at h
      · rename_i p2 x2 r2 h2
        cases h
        rw [b.rest _ _ _ _ h2, a.rest _ _ _ _ h1, List.drop_drop]
      · cases h
    · cases h

def Codec.iso {α β : Type} (a : Codec T α) (f : β → α) (g : α → β) (hfg : ∀ x, f (g x) = x) : Codec T β where
  sz := a.sz
  k x := a.k (f x)
  p cs := match a.p cs with
    | some (ps, x, r) => some (ps, g x, r)
    | none => none
  klen x := a.klen _
  ok := by
    intro cs ps x rest h hps j hj c hc
    split at h
    · rename_i p1 x1 r1 h1
      cases h
      rw [hfg] at hc
      exact a.ok _ _ _ _ h1 hps j hj c hc
    · cases h
  rest := by
    intro cs ps x rest h
    split at h
    · rename_i p1 x1 r1 h1
      cases h
      exact a.rest _ _ _ _ h1
    · cases h

def Codec.un {α : Type} (a : Codec T α) (cs : List (CV T)) : Option (List Prop × α) :=
  match a.p cs with
  | some (ps, x, []) => some (ps, x)
  | _ => none

theorem Codec.un_ok {α : Type} (a : Codec T α) {cs : List (CV T)} {ps : List Prop} {x : α} (h : a.un cs = some (ps, x)) (hps : All ps) (j : Nat) (c : CV T) (hc : (a.k x)[j]? = some c) :
    ∃ d, cs[j]? = some d ∧ ∀ (E : Enc T) w Z ρ v, RC E w Z ρ d v → PR E w Z c v := by
  unfold Codec.un at h
  split at h
  · rename_i h1
    cases h
    exact a.ok _ _ _ _ h1 hps j (by rw [← a.klen x]; exact (List.getElem?_eq_some_iff.1 hc).1) c hc
  · cases h

end

/-! #### words of the printed texts -/
theorem ite_some {α : Type} {C : Prop} [Decidable C] {A B : Option α} {r : α} (h : (if C then A else B) = some r) : (C ∧ A = some r) ∨ (¬ C ∧ B = some r) := by
  split at h
  · exact .inl ⟨‹_›, h⟩
  · exact .inr ⟨‹_›, h⟩

theorem guard_some {α : Type} {C : Prop} [Decidable C] {A : Option α} {r : α} (h : (if C then A else none) = some r) : C ∧ A = some r := by
  split at h
  · exact ⟨‹_›, h⟩
  · cases h

theorem bind_some {α β : Type} {x : Option α} {f : α → Option β} {r : β} (h : x.bind f = some r) : ∃ a, x = some a ∧ f a = some r := Option.bind_eq_some_iff.1 h

inductive Out (α β : Type) where
  | done (a : α)
  | go (b : β)

inductive Step (α β : Type) where
  | next (a : α)
  | stop (b : β)

section
variable {Tag : Type} {T : Tag → Type} {V : Env T} {P : Program} {n m : Nat} {Γ : Ent} {S : St T} {Q : Exit → St T → Prop}

theorem awp_mono {c : Code} {Q' : Exit → St T → Prop} (h : AWp V P n m Γ c Q' S) (hq : ∀ e S', Q' e S' → Q e S') : AWp V P n m Γ c Q S :=
  fun Z ρ a w ha => Code.wp_mono (fun e a' w' ⟨S', Z', ρ', h1, h2⟩ => ⟨S', Z', ρ', hq e S' h1, h2⟩) (h Z ρ a w ha)

theorem awp_join {x y : Code} (J : St T → Prop) (h1 : AWp V P n m Γ x (AThen J Q) S) (h2 : ∀ S', J S' → AWp V P n m Γ y Q S') : AWp V P n m Γ (.seq x y) Q S :=
  awp_seq (awp_mono h1 fun e S' h => by cases e <;> first | exact h2 S' h | exact h)

end
end Go.Proofs.Ytjkfadlomchpjaa.Eng

namespace Go.Proofs.Ytjkfadlomchpjaa.Eng
open Go.RowKit (Below)

section
variable {Tag : Type} {T : Tag → Type} {V : Env T} {P : Program} {n m : Nat} {Γ : Ent} {S : St T} {Q : Exit → St T → Prop}
variable {Z : Nat → Prop} {ρ : Nat → Option (Nat × Nat × Nat)} {a : Act} {w : World}

theorem Abs.look (h : Abs V n m Γ S Z ρ a w) {t : Nat} {r : AV T} (hr : RA V.E w Z ρ r (a.tmps.getD t undef)) : Abs V n m Γ (S.put (some t) r) Z ρ a w :=
  { h with
    tmps := fun s v hv => by
      simp only [St.put] at hv
      rw [look_cons] at hv
      by_cases hs : s = t
      · subst hs; rw [if_pos rfl] at hv; cases hv; exact hr
      · rw [if_neg hs, look_del, if_neg hs] at hv; exact h.tmps s v hv }

/-- A slice that nobody writes is nil, or it is not. -/
theorem awp_nilsplit {c : Code} (t : Nat) {tg : Tag} {xs : List (T tg)} (hl : look t S.tmps = some (.cv (.ro tg xs)))
    (h1 : ∀ cap, xs = [] → AWp V P n m Γ c Q (S.put (some t) (.cv (.lit (.slice none 0 cap))))) (h2 : AWp V P n m Γ c Q (S.put (some t) (.cv (.ron tg xs)))) : AWp V P n m Γ c Q S := by
  intro Z ρ a w ha
  have hx := ha.tmps _ _ hl
  generalize hv : a.tmps.getD t undef = v at hx
  cases hx with | cv hx =>
  cases hx with | pure hx =>
  cases hx with
  | ronil _ A cap =>
    cases A with
    | none => exact h1 cap rfl Z ρ a w (ha.look (by rw [hv]; exact .cv (.pure (.lit rfl))))
    | some A => exact h2 Z ρ a w (ha.look (by rw [hv]; exact .cv (.ron (.ronil _ _ _))))
  | ro _ _ ad cap u hz hcap hcell hrel => exact h2 Z ρ a w (ha.look (by rw [hv]; exact .cv (.ron (.ro _ _ ad cap u hz hcap hcell hrel))))

/-- A nil slice becomes a slice of one's own. -/
theorem awp_nilown {c : Code} (t id : Nat) (tg : Tag) (hl : look t S.tmps = some (.cv (.lit (.slice none 0 0)))) (hok : (Nat.ble m id && !S.named id) = true)
    (h : AWp V P n m Γ c Q ((S.new id (.lst tg [])).put (some t) (.cv (.own tg id)))) : AWp V P n m Γ c Q S := by
  intro Z ρ a w ha
  simp only [Bool.and_eq_true, Bool.not_eq_true'] at hok
  have hx := ha.tmps _ _ hl
  generalize hv : a.tmps.getD t undef = v at hx
  cases hx with | cv hx =>
  cases hx with | pure hx =>
  cases hx with
  | lit =>
    have hn := ha.claim V (id := id) (bc := none) (Nat.le_of_ble_eq_true hok.1) hok.2 (fun _ _ h => by cases h) (B := .lst tg []) rfl
    exact h Z _ a w (hn.look (by rw [hv]; exact .cv (.ownv (by unfold updO; rw [if_pos rfl]))))

/-- A slice of one's own that is kept in a cell of one's own. -/
theorem awp_nilownc {c : Code} (b pos id : Nat) (tg : Tag) (cs : List (CV T)) (hl : Eng.look b S.heap = some (.raw cs)) (hc : cs[pos]? = some (.lit (.slice none 0 0))) (hne : Nat.beq b id = false) (hok : (Nat.ble m id && !S.named id) = true)
    (h : AWp V P n m Γ c Q ⟨S.tmps, (id, .lst tg []) :: (b, .raw (cs.set pos (.own tg id))) :: del id (del b S.heap)⟩) : AWp V P n m Γ c Q S := by
  intro Z ρ a w ha
  simp only [Bool.and_eq_true, Bool.not_eq_true'] at hok
  have hne' : b ≠ id := fun e => by subst e; simp at hne
  have hn := ha.claim V (id := id) (bc := none) (Nat.le_of_ble_eq_true hok.1) hok.2 (fun _ _ h => by cases h) (B := .lst tg []) rfl
  have hlook : ∀ i blk, Eng.look i ((id, Blk.lst tg []) :: (b, .raw (cs.set pos (.own tg id))) :: del id (del b S.heap)) = some blk → (i = id ∧ blk = .lst tg []) ∨ (i ≠ id ∧ i = b ∧ blk = .raw (cs.set pos (.own tg id))) ∨ (i ≠ id ∧ i ≠ b ∧ Eng.look i S.heap = some blk) := fun i blk hl => by
    rw [look_cons] at hl
    by_cases hi : i = id
    · rw [if_pos hi] at hl; cases hl; exact .inl ⟨hi, rfl⟩
    · rw [if_neg hi, look_cons] at hl
      by_cases hb : i = b
      · rw [if_pos hb] at hl; cases hl; exact .inr (.inl ⟨hi, hb, rfl⟩)
      · rw [if_neg hb, look_del, if_neg hi, look_del, if_neg hb] at hl; exact .inr (.inr ⟨hi, hb, hl⟩)
  have hold : ∀ i blk, i ≠ id → Eng.look i S.heap = some blk → Eng.look i (S.new id (.lst tg [])).heap = some blk := fun i blk hi hl => by
    simp only [St.new]; rw [look_cons, if_neg hi, look_del, if_neg hi]; exact hl
  have hnew : Eng.look id (S.new id (.lst tg [])).heap = some (.lst tg []) := by simp only [St.new]; rw [look_cons, if_pos rfl]
  have hrel : ∀ i blk, Eng.look i ((id, Blk.lst tg []) :: (b, .raw (cs.set pos (.own tg id))) :: del id (del b S.heap)) = some blk → ∃ blk0, Eng.look i (S.new id (.lst tg [])).heap = some blk0 := fun i blk hl' => by
    rcases hlook i blk hl' with ⟨rfl, rfl⟩ | ⟨hi, rfl, rfl⟩ | ⟨hi, hb, hl1⟩
    · exact ⟨_, hnew⟩
    · exact ⟨_, hold _ _ hi hl⟩
    · exact ⟨_, hold _ _ hi hl1⟩
  refine h Z _ a w { hn with
    own := fun i blk b1 c1 hl' hr => by
      obtain ⟨blk0, h0⟩ := hrel i blk hl'
      exact hn.own i blk0 b1 c1 h0 hr
    inj := fun i i' blk blk' b1 c1 c2 hl1 hl2 hr hr' => by
      obtain ⟨blk0, h0⟩ := hrel i blk hl1
      obtain ⟨blk1, h1⟩ := hrel i' blk' hl2
      exact hn.inj i i' blk0 blk1 b1 c1 c2 h0 h1 hr hr'
    blk := fun i blk hl' => by
      rcases hlook i blk hl' with ⟨rfl, rfl⟩ | ⟨hi, rfl, rfl⟩ | ⟨hi, hb, hl1⟩
      · exact hn.blk _ _ hnew
      · have h0 := hn.blk _ _ (hold _ _ hi hl)
        cases hbc : updO ρ id none i with
        | none => rw [hbc] at h0; exact h0.elim
        | some p =>
          rw [hbc] at h0
          obtain ⟨bb, cc⟩ := p
          obtain ⟨arr, e, g1, g2, g3⟩ := h0
          refine ⟨arr, e, g1, by simpa using g2, fun j c0 u hj hu => ?_⟩
          by_cases hjp : j = pos
          · subst hjp
            have hlt : j < cs.length := (List.getElem?_eq_some_iff.1 hc).1
            rw [List.getElem?_set] at hj
            simp [hlt] at hj
            subst hj
            have := g3 j _ u hc hu
            cases this with | pure this => cases this with
            | lit => exact .ownv (by unfold updO; rw [if_pos rfl])
          · rw [List.getElem?_set_ne (fun e => hjp e.symm)] at hj
            exact g3 j c0 u hj hu
      · exact hn.blk _ _ (hold _ _ hi hl1) }

end

/-! #### results of loops from which a function may return -/
def obind {α β γ : Type} (o : Option (Out α β)) (d : α → γ) (f : β → Option γ) : Option γ :=
  match o with
  | none => none
  | some (.done a) => some (d a)
  | some (.go x) => f x

theorem obind_some {α β γ : Type} {o : Option (Out α β)} {d : α → γ} {f : β → Option γ} {r : γ} (h : obind o d f = some r) : ∃ p, o = some p ∧ ((∃ a, p = .done a ∧ d a = r) ∨ ∃ x, p = .go x ∧ f x = some r) := by
  unfold obind at h
  split at h
  · cases h
  · rename_i a; cases h; exact ⟨_, rfl, .inl ⟨a, rfl, rfl⟩⟩
  · rename_i x; exact ⟨_, rfl, .inr ⟨x, rfl, h⟩⟩

end Go.Proofs.Ytjkfadlomchpjaa.Eng

namespace Go.Proofs.Ytjkfadlomchpjaa.Eng
open Go.RowKit (Below)
open Go.ChangeShapes Go.WideShapes

section
variable {Tag : Type} {T : Tag → Type}

/-- What an argument's reading gives: a typed value, whose cells nobody writes. -/
def ReadsAs (V : Env T) (P : Program) (t : TypeId) {α : Type} (c : Codec T α) (G : α → Prop) : Prop :=
  ∀ (H : Type) (enc : TypeId × Value → H) (W : World) (spare : Nat → Bool) (held : Bool) (fuel : Nat) (cs : List Value) (x : DataW H × List MemPlace),
    DataW.trod enc P W 0 spare held fuel t cs = some x → (∀ n ∈ x.1.weights P t, n ≤ reachBytes) → ∃ y, G y ∧ cs.length = c.sz ∧ ∀ (j : Nat) k v, (c.k y)[j]? = some k → cs[j]? = some v → PR V.E W (fun b => b < W.heap.size) k v

variable {V : Env T} {P : Program} {t : TypeId}

theorem reads_int {k : IntKind} (ht : P.underlying t = some (.int k)) : ReadsAs V P t (Codec.int k) (fun n => (Lit.int k n).wf = true) := by
  intro H enc W spare held fuel cs x h hwt
  obtain ⟨n, rfl, _, hw⟩ := DataW.trod_int ht h
  refine ⟨n, hw, rfl, fun j c v hc hv => ?_⟩
  match j with
  | 0 => simp [Codec.int] at hc hv; subst hc; subst hv; exact .lit rfl
  | j + 1 => simp [Codec.int] at hc

theorem reads_byte (ht : P.underlying t = some (.int .u8)) : ReadsAs V P t (Codec.byte) (fun _ => True) := by
  intro H enc W spare held fuel cs x h hwt
  obtain ⟨n, rfl, _, hw⟩ := DataW.trod_int ht h
  simp only [Lit.wf, Bool.and_eq_true, decide_eq_true_eq] at hw
  refine ⟨UInt8.ofNat n.toNat, trivial, rfl, fun j c v hc hv => ?_⟩
  match j with
  | 0 =>
    simp [Codec.byte] at hc hv
    subst hc; subst hv
    have h1 : (0 : Int) ≤ n := by have := hw.1; simpa [IntKind.min, IntKind.signed] using this
    have h2 : n ≤ 255 := by have := hw.2; simpa [IntKind.max, IntKind.signed, IntKind.bits] using this
    have e : max n 0 % 256 = n := by omega
    rw [e]
    exact .lit rfl
  | j + 1 => simp [Codec.byte] at hc

theorem trod_bool {H : Type} {enc : TypeId × Value → H} {w : World} {base : Nat} {spare : Nat → Bool} {held : Bool} {fuel : Nat} {cs : List Value} {x : DataW H × List MemPlace} (ht : P.underlying t = some .bool) (h : DataW.trod enc P w base spare held fuel t cs = some x) : ∃ b, cs = [.bool b] := by
  cases fuel with
  | zero => simp [DataW.trod] at h
  | succ n =>
    unfold DataW.trod at h
    rw [ht] at h
    split at h <;> simp_all

theorem reads_bool (ht : P.underlying t = some .bool) : ReadsAs V P t (Codec.bool) (fun _ => True) := by
  intro H enc W spare held fuel cs x h hwt
  obtain ⟨b, rfl⟩ := trod_bool ht h
  refine ⟨b, trivial, rfl, fun j c v hc hv => ?_⟩
  match j with
  | 0 => simp [Codec.bool] at hc hv; subst hc; subst hv; exact .lit rfl
  | j + 1 => simp [Codec.bool] at hc

theorem reads_str (ht : P.underlying t = some .string) : ReadsAs V P t (Codec.str) (fun l => l.length ≤ reachBytes) := by
  intro H enc W spare held fuel cs x h hwt
  obtain ⟨s, rfl, rfl, hl⟩ := DataW.trod_string ht h
  refine ⟨s.data.toList, hwt _ (by simp [DataW.weights]), rfl, fun j c v hc hv => ?_⟩
  match j with
  | 0 => simp [Codec.str] at hc hv; subst hc; subst hv; exact .str _
  | j + 1 => simp [Codec.str] at hc

theorem list_of {α : Type} (Q : Nat → α → Prop) : ∀ n, (∀ i, i < n → ∃ x, Q i x) → ∃ l : List α, l.length = n ∧ ∀ (i : Nat) x, l[i]? = some x → Q i x
  | 0, _ => ⟨[], rfl, fun i x h => by simp at h⟩
  | n + 1, h => by
    obtain ⟨l, h1, h2⟩ := list_of Q n (fun i hi => h i (by omega))
    obtain ⟨x, hx⟩ := h n (by omega)
    refine ⟨l ++ [x], by simp [h1], fun i y hy => ?_⟩
    by_cases hi : i < l.length
    · rw [List.getElem?_append_left hi] at hy; exact h2 i y hy
    · rw [List.getElem?_append_right (by omega)] at hy
      have : i = n := by
        have := (List.getElem?_eq_some_iff.1 hy).1
        simp at this; omega
      subst this
      rw [h1] at hy
      simp at hy
      subst hy
      exact hx

theorem mem_weightsAll {H : Type} {e : TypeId} : ∀ (ds : List (DataW H)) (d : DataW H) (n : Nat), d ∈ ds → n ∈ d.weights P e → n ∈ DataW.weightsAll P e ds
  | [], d, n, h, _ => by cases h
  | x :: ds, d, n, h, hn => by
    unfold DataW.weightsAll
    rcases List.mem_cons.1 h with rfl | h
    · exact List.mem_append_left _ hn
    · exact List.mem_append_right _ (mem_weightsAll ds d n h hn)

theorem mem_weightsEach {H : Type} : ∀ (ts : List TypeId) (ds : List (DataW H)) (i : Nat) (t : TypeId) (d : DataW H) (n : Nat), ts[i]? = some t → ds[i]? = some d → n ∈ d.weights P t → n ∈ DataW.weightsEach P ts ds
  | [], ds, i, t, d, n, h, _, _ => by simp at h
  | u :: ts, [], i, t, d, n, _, h, _ => by simp at h
  | u :: ts, x :: ds, i, t, d, n, ht, hd, hn => by
    unfold DataW.weightsEach
    cases i with
    | zero => simp at ht hd; subst ht; subst hd; exact List.mem_append_left _ hn
    | succ i => exact List.mem_append_right _ (mem_weightsEach ts ds i t d n (by simpa using ht) (by simpa using hd) hn)

theorem reads_sl [DecidableEq Tag] {e : TypeId} {tg : Tag} {c : Codec T (T tg)} {G : T tg → Prop} (ht : P.underlying t = some (.slice e)) (hk : ∀ x, V.E.k tg x = c.k x) (hs : V.E.sz tg = P.cellsOf e) (hpos : 0 < P.cellsOf e)
    (he : ReadsAs V P e c G) : ReadsAs V P t (Codec.sl tg) (fun l => l.length * P.bytesOf e ≤ reachBytes ∧ l.length ≤ 9223372036854775807 ∧ ∀ x ∈ l, G x) := by
  intro H enc W spare held fuel cs x h hwt
  rcases DataW.trod_slice ht h with ⟨rfl, _⟩ | ⟨a, len, cap, elems, rest, n, _, rfl, hx, _, hl, hm, hlen, hel, _, _⟩
  · refine ⟨[], by simp, rfl, fun j c v hc hv => ?_⟩
    match j with
    | 0 => simp [Codec.sl] at hc hv; subst hc; subst hv; exact .ronil _ _ _
    | j + 1 => simp [Codec.sl] at hc
  · have key : ∀ i, i < len → ∃ y, G y ∧ ∀ (j : Nat) k, (c.k y)[j]? = some k → ∃ v, W.cell? (a.add (i * P.cellsOf e + j)) = some v ∧ PR V.E W (fun b => b < W.heap.size) k v := by
      intro i hi
      have h1 := hel i hi
      rw [List.getElem?_eq_getElem (by omega)] at h1
      rw [Option.bind_eq_some_iff] at h1
      obtain ⟨cs', h2, h3⟩ := h1
      obtain ⟨y, g1, g2, g3⟩ := he H enc W spare held n cs' _ h3 (fun q hq => hwt q (by
        subst hx
        simp only [DataW.weights, ht]
        exact List.mem_cons_of_mem _ (List.mem_append_left _ (mem_weightsAll _ _ _ (List.mem_map.2 ⟨_, List.getElem_mem (by omega), rfl⟩) hq))))
      refine ⟨y, g1, fun j k hk' => ?_⟩
      obtain ⟨_, c2, c3⟩ := World.cells?_some h2
      have hj : j < cs'.length := by rw [g2, ← c.klen y]; exact (List.getElem?_eq_some_iff.1 hk').1
      refine ⟨cs'[j], ?_, g3 j k _ hk' (List.getElem?_eq_getElem hj)⟩
      have := c3 j (by omega)
      rw [← List.getElem?_eq_getElem hj, ← this]
      rw [Go.Addr.add_add]
    obtain ⟨l, h1, h2⟩ := list_of (fun i y => G y ∧ ∀ (j : Nat) k, (c.k y)[j]? = some k → ∃ v, W.cell? (a.add (i * P.cellsOf e + j)) = some v ∧ PR V.E W (fun b => b < W.heap.size) k v) len key
    refine ⟨l, ⟨?_, by rw [h1]; exact Nat.le_trans hl hm, fun x hx => ?_⟩, rfl, fun j k v hk' hv => ?_⟩
    · refine Nat.le_trans ?_ (hwt ((elems.length + rest.length) * P.bytesOf e) (by subst hx; simp only [DataW.weights, ht, List.length_map]; exact List.mem_cons_self))
      exact Nat.mul_le_mul_right _ (by omega)
    · obtain ⟨i, hi, rfl⟩ := List.mem_iff_getElem.1 hx
      exact (h2 i _ (List.getElem?_eq_getElem hi)).1
    · cases j with
      | succ j => cases hk'
      | zero =>
        replace hk' : some (CV.ro tg l) = some k := hk'
        simp at hk' hv
        subst hk'; subst hv
        by_cases hnil : l = []
        · subst hnil
          simp at h1
          subst h1
          exact .ronil _ _ _
        · rw [← h1]
          have hl0 : 0 < l.length := List.length_pos_iff.2 hnil
          have hb : a.block < W.heap.size := by
            have hg := h2 0 l[0] (List.getElem?_eq_getElem hl0)
            have hp : 0 < (c.k l[0]).length := by rw [← hk, V.E.klen, hs]; exact hpos
            obtain ⟨v, hv, _⟩ := hg.2 0 _ (List.getElem?_eq_getElem hp)
            have := World.cells?_block (n := 1) (base := 0) (cellsq hv) (by omega)
            have e : (a.add (0 * P.cellsOf e + 0)).block = a.block := by unfold Addr.add; split <;> rfl
            rw [e] at this
            exact this
          refine .ro tg l a cap (fun i j => (W.cell? (a.add (i * V.E.sz tg + j))).getD undef) hb (by rw [h1]; exact hl) (fun i x j k hx hc => ?_) fun i x j k hx hc => ?_
          · rw [hk] at hc
            obtain ⟨v, hv, _⟩ := (h2 i x hx).2 j k hc
            rw [hs, hv]
            rfl
          · rw [hk] at hc
            obtain ⟨v, hv, hp⟩ := (h2 i x hx).2 j k hc
            simp only [hs, hv]
            exact hp
where cellsq {W : World} {a : Addr} {v : Value} (h : W.cell? a = some v) : W.cells? 0 a 1 = some [v] := cells?_one (Nat.zero_le _) h


/-- The fields of a struct, from the field at offset 'off' on. -/
def ReadsF (V : Env T) (P : Program) (fs : List Field) (off : Nat) {α : Type} (c : Codec T α) (G : α → Prop) : Prop :=
  ∀ (H : Type) (enc : TypeId × Value → H) (W : World) (spare : Nat → Bool) (held : Bool) (n : Nat) (cs : List Value),
    (∀ (i : Nat) (f : Field), fs[i]? = some f → ∃ y, DataW.trod enc P W 0 spare held n f.type ((cs.drop f.offset).take (P.cellsOf f.type)) = some y ∧ ∀ q ∈ y.1.weights P f.type, q ≤ reachBytes) →
    ∃ y, G y ∧ ∀ (j : Nat) k v, (c.k y)[j]? = some k → cs[off + j]? = some v → PR V.E W (fun b => b < W.heap.size) k v

theorem readsF_nil {off : Nat} : ReadsF V P [] off (Codec.unit (T := T)) (fun _ => True) :=
  fun H enc W spare held n cs h => ⟨(), trivial, fun j k v hk => by cases hk⟩

theorem readsF_one {f : Field} {off : Nat} {α : Type} {c : Codec T α} {G : α → Prop} (ho : f.offset = off) (h : ReadsAs V P f.type c G) : ReadsF V P [f] off c G := by
  intro H enc W spare held n cs hf
  obtain ⟨x, hx, hwt⟩ := hf 0 f rfl
  obtain ⟨y, g1, g2, g3⟩ := h H enc W spare held n _ _ hx hwt
  refine ⟨y, g1, fun j k v hk hv => g3 j k v hk ?_⟩
  have hj : j < c.sz := by rw [← c.klen y]; exact (List.getElem?_eq_some_iff.1 hk).1
  rw [ho] at g2 ⊢
  simp only [List.length_take, List.length_drop] at g2
  rw [List.getElem?_take, if_pos (by omega), List.getElem?_drop]
  exact hv

theorem readsF_cons {f : Field} {fs : List Field} {off : Nat} {α β : Type} {c : Codec T α} {d : Codec T β} {G : α → Prop} {G' : β → Prop} (ho : f.offset = off) (h : ReadsAs V P f.type c G) (hr : ReadsF V P fs (off + c.sz) d G') :
    ReadsF V P (f :: fs) off (Codec.pair c d) (fun y => G y.1 ∧ G' y.2) := by
  intro H enc W spare held n cs hf
  obtain ⟨y, g1, g2⟩ := readsF_one ho h H enc W spare held n cs (fun i f' hi => by
    cases i with
    | zero => cases hi; exact hf 0 f rfl
    | succ i => cases hi)
  obtain ⟨z, h1, h2⟩ := hr H enc W spare held n cs (fun i f' hi => hf (i + 1) f' hi)
  refine ⟨(y, z), ⟨g1, h1⟩, fun j k v hk hv => ?_⟩
  replace hk : (c.k y ++ d.k z)[j]? = some k := hk
  by_cases hj : j < (c.k y).length
  · rw [List.getElem?_append_left hj] at hk
    exact g2 j k v hk hv
  · rw [List.getElem?_append_right (by omega)] at hk
    refine h2 _ k v hk ?_
    rw [← hv]
    congr 1
    rw [c.klen] at hj ⊢
    omega

theorem reads_struct {fs : Array Field} {α β : Type} {c : Codec T α} {f : β → α} {g : α → β} {hfg : ∀ x, f (g x) = x} {G : α → Prop} (ht : P.underlying t = some (.struct fs)) (hsz : P.cellsOf t = c.sz)
    (h : ReadsF V P fs.toList 0 c G) : ReadsAs V P t (Codec.iso c f g hfg) (fun y => G (f y)) := by
  intro H enc W spare held fuel cs x hx hwt
  obtain ⟨xs, n, _, rfl, hl, hlen, hf⟩ := DataW.trod_struct ht hx
  obtain ⟨y, g1, g2⟩ := h H enc W spare held n cs (fun i fl hi => by
    have hi' : fs[i]? = some fl := by rw [← Array.getElem?_toList]; exact hi
    have h1 := hf i fl hi'
    have : i < xs.length := by rw [hlen]; exact (Array.getElem?_eq_some_iff.1 hi').1
    refine ⟨xs[i], by rw [h1]; exact List.getElem?_eq_getElem this, fun q hq => hwt q ?_⟩
    simp only [DataW.weights, ht]
    exact mem_weightsEach _ _ i fl.type _ q (by rw [List.getElem?_map, hi]; rfl) (by rw [List.getElem?_map, List.getElem?_eq_getElem this]; rfl) hq)
  refine ⟨g y, by show G (f (g y)); rw [hfg]; exact g1, hl.trans hsz, fun j k v hk hv => g2 j k v ?_ (by rw [Nat.zero_add]; exact hv)⟩
  replace hk : (c.k (f (g y)))[j]? = some k := hk
  rw [hfg] at hk
  exact hk

/-- An argument that is one cell. -/
theorem ReadsAs.one {α : Type} {c : Codec T α} {G : α → Prop} (h : ReadsAs V P t c G) {W : World} {v : Value} {H : Type} {enc : TypeId × Value → H} {spare : Nat → Bool} {held : Bool} {d : DataW H} {ps : List MemPlace} (hr : DataW.Trod enc P W 0 spare held t v d ps) (hwt : ∀ n ∈ d.weights P t, n ≤ reachBytes)
    (hv : v.oneCell' = true) : ∃ y, G y ∧ ∀ k, c.k y = [k] → RA V.E W (fun b => b < W.heap.size) (fun _ => none) (.cv k) v := by
  obtain ⟨fuel, hr⟩ := hr
  obtain ⟨y, g1, g2, g3⟩ := h H enc W spare held fuel _ _ hr hwt
  have hc : v.cells.toList = [v] := by cases v <;> first | rfl | cases hv
  rw [hc] at g3
  exact ⟨y, g1, fun k hk => .cv (.pure (g3 0 k v (by rw [hk]; rfl) rfl))⟩

/-- An argument that is a struct. -/
theorem ReadsAs.agg {α : Type} {c : Codec T α} {G : α → Prop} (h : ReadsAs V P t c G) {W : World} {us : Array Value} {H : Type} {enc : TypeId × Value → H} {spare : Nat → Bool} {held : Bool} {d : DataW H} {ps : List MemPlace} (hr : DataW.Trod enc P W 0 spare held t (.agg us) d ps) (hwt : ∀ n ∈ d.weights P t, n ≤ reachBytes) :
    ∃ y, G y ∧ RA V.E W (fun b => b < W.heap.size) (fun _ => none) (.agg (c.k y)) (.agg us) := by
  obtain ⟨fuel, hr⟩ := hr
  obtain ⟨y, g1, g2, g3⟩ := h H enc W spare held fuel _ _ hr hwt
  refine ⟨y, g1, .agg (by rw [c.klen]; simpa [Value.cells] using g2) fun i k v hk hv => .pure (g3 i k v hk (by simpa [Value.cells] using hv))⟩

theorem post_of_below {H : Type} {enc : TypeId × Value → H} {f : Func} {s : ChangeSpec} {apart fresh handsOn again : Bool} {W W' : World} {args : Array Value} {v : Value} {ds gs : List (DataW H)} {before pa pv : List MemPlace}
    (hW : DataW.Whole enc P f.params.toList s.vars apart W args.toList ds gs before) (hb : Below W.heap.size W W')
    (hres : ∀ (b : Nat) (sp : Nat → Bool) (hd : Bool), DataW.TrodAll enc P W' b sp hd f.resultTypes.toList (v.resultList f.resultTypes.size) (s.fn H (ds ++ gs)).results [])
    (hargs : ∀ sp : Nat → Bool, (∀ p ∈ before, sp p.block = true) → DataW.TrodAll enc P W' 0 sp true f.params.toList args.toList (s.fn H (ds ++ gs)).args pa)
    (hvars : ∀ sp : Nat → Bool, (∀ p ∈ before, sp p.block = true) → DataW.TrodVars enc P W' sp s.vars (s.fn H (ds ++ gs)).vars pv)
    (hps : before = pa ++ pv)
    (hok : ∀ (j : Nat) (t : TypeId) (r : Value), f.resultTypes[j]? = some t → (v.resultList f.resultTypes.size)[j]? = some r → Value.okWide P W' .any 0 t r) :
    s.post enc P f apart fresh handsOn again W args v W' := by
  have hold : ∀ p ∈ before, (fun b => decide (b < W.heap.size)) p.block = true := fun p hp => by simpa using hW.lt p hp
  refine ⟨ds, gs, before, [], pa, pv, hW, hres _ _ _, hargs _ hold, hvars _ hold, hb.frame _, fun _ => ?_⟩
  have hlt : ∀ p ∈ before, p.block < W.heap.size := fun p hp => by simpa using hW.lt p hp
  obtain ⟨_, _, _, _, _, hz, hn⟩ := hW
  refine ⟨hok, _, _, ([] ++ pa) ++ pv, ⟨[] ++ pa, pv, trodAll_append (hargs _ (fun _ _ => rfl)) (hres _ _ _), hvars _ (fun _ _ => rfl), rfl, ?_, ?_⟩, ?_⟩
  · intro b off hp
    have hp' : MemPlace.cell b off ∈ before := by rw [hps]; simpa using hp
    rw [hb.frozen (p := ⟨b, off, none⟩) (hlt _ hp')]
    exact hz b off hp'
  · intro ha
    have := hn ha
    rw [hps] at this
    simpa using this
  · intro p hp _
    rw [hps]
    simpa using hp


def isOneD : TypeDesc → Bool
  | .bool | .string | .int _ | .slice _ => true
  | _ => false

theorem one_of_okWide {W : World} {r : Reach} {base : Nat} {v : Value} {d : TypeDesc} (hd : P.underlying t = some d) (h1 : isOneD d = true) (h : Value.okWide P W r base t v) : v.oneCell' = true := by
  unfold Value.okWide at h
  rw [hd] at h
  cases d <;> first | cases h1; done | (unfold Cell.okWide Cell.ok at h; rw [hd] at h; cases v <;> first | rfl | exact h.elim)

theorem agg_of_okWide {W : World} {r : Reach} {base : Nat} {v : Value} {fs : Array Field} (hd : P.underlying t = some (.struct fs)) (h : Value.okWide P W r base t v) : ∃ us, v = .agg us := by
  unfold Value.okWide at h
  rw [hd] at h
  obtain ⟨us, h1, _⟩ := h
  exact ⟨us, h1⟩

theorem ReadsAs.one' {α : Type} {c : Codec T α} {G : α → Prop} (h : ReadsAs V P t c G) {W : World} {v : Value} {H : Type} {enc : TypeId × Value → H} {spare : Nat → Bool} {held : Bool} {d : DataW H} {ps : List MemPlace} {td : TypeDesc} {r : Reach} {base : Nat}
    (hd : P.underlying t = some td) (h1 : isOneD td = true) (hok : Value.okWide P W r base t v) (hr : DataW.Trod enc P W 0 spare held t v d ps) (hwt : ∀ n ∈ d.weights P t, n ≤ reachBytes) :
    ∃ y, G y ∧ ∀ k, c.k y = [k] → RA V.E W (fun b => b < W.heap.size) (fun _ => none) (.cv k) v := h.one hr hwt (one_of_okWide hd h1 hok)

theorem ReadsAs.agg' {α : Type} {c : Codec T α} {G : α → Prop} (h : ReadsAs V P t c G) {W : World} {v : Value} {H : Type} {enc : TypeId × Value → H} {spare : Nat → Bool} {held : Bool} {d : DataW H} {ps : List MemPlace} {fs : Array Field} {r : Reach} {base : Nat}
    (hd : P.underlying t = some (.struct fs)) (hok : Value.okWide P W r base t v) (hr : DataW.Trod enc P W 0 spare held t v d ps) (hwt : ∀ n ∈ d.weights P t, n ≤ reachBytes) :
    ∃ y, G y ∧ RA V.E W (fun b => b < W.heap.size) (fun _ => none) (.agg (c.k y)) v := by
  obtain ⟨us, rfl⟩ := agg_of_okWide hd hok
  exact h.agg hr hwt

theorem weights_cons {H : Type} {t : TypeId} {ts : List TypeId} {d : DataW H} {ds : List (DataW H)} (h : (DataW.weightsEach P (t :: ts) (d :: ds)).all (· ≤ reachBytes) = true) :
    (∀ n ∈ d.weights P t, n ≤ reachBytes) ∧ (DataW.weightsEach P ts ds).all (· ≤ reachBytes) = true := by
  unfold DataW.weightsEach at h
  rw [List.all_append, Bool.and_eq_true] at h
  exact ⟨fun n hn => by have := List.all_eq_true.1 h.1 n hn; simpa using this, h.2⟩

def RAs (V : Env T) (W : World) (xs : List (AV T)) (vs : List Value) : Prop := ∀ (i : Nat) x v, xs[i]? = some x → vs[i]? = some v → RA V.E W (fun b => b < W.heap.size) (fun _ => none) x v

theorem ras_nil {W : World} {vs : List Value} : RAs V W [] vs := fun i x v h => by simp at h

theorem ras_cons {W : World} {x : AV T} {xs : List (AV T)} {v : Value} {vs : List Value} (h : RA V.E W (fun b => b < W.heap.size) (fun _ => none) x v) (hs : RAs V W xs vs) : RAs V W (x :: xs) (v :: vs) := fun i y u hy hu => by
  cases i with
  | zero => simp at hy hu; subst hy; subst hu; exact h
  | succ i => exact hs i y u (by simpa using hy) (by simpa using hu)

theorem trodAll_stays {H : Type} {enc : TypeId × Value → H} (hl : laidOutB P = true) {W W' : World} (hb : Below W.heap.size W W') {sp : Nat → Bool} : ∀ (ts : List TypeId), ts.all (fun t => P.readableRec t && decide (t < P.types.size)) = true →
    ∀ (vs : List Value) (ds : List (DataW H)) (p : List MemPlace), DataW.TrodAll enc P W 0 (fun _ => true) true ts vs ds p → (∀ x ∈ p, x.block < W.heap.size) → (∀ x ∈ p, sp x.block = true) → DataW.TrodAll enc P W' 0 sp true ts vs ds p
  | [], _, vs, ds, p, h, _, _ => by
    obtain ⟨rfl, rfl, rfl⟩ := trodAll_nil h
    rfl
  | t :: ts, hc, vs, ds, p, h, hlt, hsp => by
    simp only [List.all_cons, Bool.and_eq_true, decide_eq_true_eq] at hc
    obtain ⟨v, vs', d, ds', p1, p2, rfl, rfl, rfl, h1, h2⟩ := trodAll_cons h
    refine ⟨p1, p2, WideElems.Trod_stays hl hc.1.1 hc.1.2 h1 (fun x hx => hb.same (hlt x (by simp [hx]))) (fun x hx => hsp x (by simp [hx])), trodAll_stays hl hb ts hc.2 _ _ _ h2 (fun x hx => hlt x (by simp [hx])) (fun x hx => hsp x (by simp [hx])), rfl⟩

/-- The end of a law that answers with true. -/
theorem post_true {H : Type} {enc : TypeId × Value → H} {f : Func} {s : ChangeSpec} {apart fresh handsOn again : Bool} {W W' : World} {args : Array Value} {ds : List (DataW H)} {before : List MemPlace} {tb : TypeId}
    (hW : DataW.Whole enc P f.params.toList s.vars apart W args.toList ds [] before) (hb : Below W.heap.size W W') (hvars : s.vars = []) (hl : laidOutB P = true)
    (hp : f.params.toList.all (fun t => P.readableRec t && decide (t < P.types.size)) = true) (hr : f.resultTypes = #[tb]) (htb : P.underlying tb = some .bool)
    (hs : s.fn H (ds ++ []) = { results := [.lit (.bool true)], args := ds }) :
    s.post enc P f apart fresh handsOn again W args (.bool true) W' := by
  have hlt : ∀ p ∈ before, p.block < W.heap.size := fun p hp => by simpa using hW.lt p hp
  have hW2 := hW
  obtain ⟨p, q, hA, hV, rfl, _, _⟩ := hW2
  rw [hvars] at hV
  obtain ⟨_, rfl⟩ := trodVars_none hV
  refine post_of_below (pa := p) (pv := []) hW hb (fun b sp hd => ?_) (fun sp hsp => ?_) (fun sp hsp => ?_) rfl ?_
  · rw [hr, hs]
    exact ⟨[], [], ⟨1, by show DataW.trod enc P W' b sp hd 1 tb [.bool true] = _; unfold DataW.trod; rw [htb]⟩, rfl, rfl⟩
  · rw [hs]
    exact trodAll_stays hl hb _ hp _ _ _ hA (fun x hx => hlt x (by simp [hx])) (fun x hx => hsp x (by simp [hx]))
  · rw [hs, hvars]; rfl
  · exact Go.RowKit.ok_one hr rfl (by unfold Value.okWide; rw [htb]; unfold Cell.okWide Cell.ok; rw [htb]; trivial)

end
end Go.Proofs.Ytjkfadlomchpjaa.Eng

namespace Go.Proofs.Ytjkfadlomchpjaa.Eng

/-! #### plain words for the laws on lists -/
theorem wrap64 (n : Int) : IntKind.i64.wrap n = (n + 9223372036854775808) % 18446744073709551616 - 9223372036854775808 := by
  simp [IntKind.wrap, IntKind.bits, IntKind.signed]
  split <;> omega

theorem wrap_small {x : Int} (h0 : -9223372036854775808 ≤ x) (h1 : x ≤ 9223372036854775807) : IntKind.i64.wrap x = x := by
  rw [wrap64]; omega

theorem wrap_succ {n : Nat} (h : n < 9223372036854775807) : IntKind.i64.wrap ((n : Int) + 1) = ((n + 1 : Nat) : Int) := by
  rw [wrap_small (by omega) (by omega)]; omega

theorem drop_step {α : Type} {xs : List α} {n : Nat} (h : n < xs.length) (d : α) : xs.drop n = xs.getD n d :: xs.drop (n + 1) := by
  rw [List.drop_eq_getElem_cons h]
  simp [List.getD_eq_getElem?_getD, h]

theorem drop_end {α : Type} {xs : List α} {n : Nat} (h : ¬ n < xs.length) : xs.drop n = [] := List.drop_eq_nil_of_le (by omega)

theorem getD_mem {α : Type} {xs : List α} {n : Nat} (h : n < xs.length) (d : α) : xs.getD n d ∈ xs := by
  simp [List.getD_eq_getElem?_getD, h]

end Go.Proofs.Ytjkfadlomchpjaa.Eng

