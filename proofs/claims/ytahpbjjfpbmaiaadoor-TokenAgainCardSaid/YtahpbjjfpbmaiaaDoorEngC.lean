/- An abstract machine for Go code, sound for the model: loops, maps, contracts; the end of a law. -/
import Derived.Test.YtahpbjjfpbmaiaaDoorEngB
import Derived.ProofKit
import Derived.Deep.Slices
import Derived.DataElems
import Derived.SizedLaws
set_option linter.unusedVariables false
set_option linter.unusedSimpArgs false
namespace Go.Proofs.YtahpbjjfpbmaiaaDoor.Eng
open Go.RowKit (Below)
structure Codec {Tag : Type} (T : Tag → Type) (α : Type) where
 sz : Nat
 k : α → List (CV T)
 p : List (CV T) → Option (List Prop × α × List (CV T))
 klen : ∀ x, (k x).length = sz
 ok : ∀ cs ps x rest, p cs = some (ps, x, rest) → All ps → ∀ (j : Nat), j < sz → ∀ c, (k x)[j]? = some c → ∃ d, cs[j]? = some d ∧ ∀ (E : Enc T) w Z ρ v, RC E w Z ρ d v → PR E w Z c v
 rest : ∀ cs ps x rest, p cs = some (ps, x, rest) → rest = cs.drop sz
section
variable {Tag : Type} {T : Tag → Type}
def isPure : CV T → Bool
 | .lit _ | .str _ | .any | .ro _ _ => true
 | _ => false
theorem pure_of {E : Enc T} {w : World} {Z : Nat → Prop} {ρ : Nat → Option (Nat × Nat × Nat)} {c : CV T} {v : Value} (hc : isPure c = true) (h : RC E w Z ρ c v) : PR E w Z c v := by
 cases h with
 | pure h => exact h
 | _ => cases hc
def Codec.int (k : IntKind) : Codec T Int where
 sz := 1
 k n := [.lit (.int k n)]
 p
  | .lit (.int k' n) :: rest => match decEq k' k with | .isTrue _ => some ([], n, rest) | .isFalse _ => none
  | _ => none
 klen _ := rfl
 ok := by
  intro cs ps x rest h _ j hj c hc
  have : j = 0 := by omega
  subst this
  split at h
  ·split at h
   ·rename_i hk _
    cases h
    subst hk
    simp at hc
    subst hc
    exact ⟨_, rfl, fun E w Z ρ v h => pure_of rfl h⟩
   ·cases h
  ·cases h
 rest := by
  intro cs ps x rest h
  split at h
  ·split at h
   ·cases h; rfl
   ·cases h
  ·cases h
def Codec.byte : Codec T UInt8 where
 sz := 1
 k b := [.lit (.int .u8 b.toNat)]
 p
  | .lit (.int .u8 n) :: rest => some ([0 ≤ n, n < 256], UInt8.ofNat n.toNat, rest)
  | _ => none
 klen _ := rfl
 ok := by
  intro cs ps x rest h hps j hj c hc
  have : j = 0 := by omega
  subst this
  split at h
  ·rename_i n _
   cases h
   obtain ⟨h0, h1⟩ := hps
   replace h1 : n < 256 := h1
   simp at hc
   subst hc
   refine ⟨_, rfl, fun E w Z ρ v h => ?_⟩
   rw [show max n 0 % 256 = n from by omega]
   exact pure_of rfl h
  ·cases h
 rest := by
  intro cs ps x rest h
  split at h
  ·cases h; rfl
  ·cases h
def Codec.bool : Codec T Bool where
 sz := 1
 k b := [.lit (.bool b)]
 p
  | .lit (.bool b) :: rest => some ([], b, rest)
  | _ => none
 klen _ := rfl
 ok := by
  intro cs ps x rest h _ j hj c hc
  have : j = 0 := by omega
  subst this
  split at h
  ·cases h
   simp at hc
   subst hc
   exact ⟨_, rfl, fun E w Z ρ v h => pure_of rfl h⟩
  ·cases h
 rest := by
  intro cs ps x rest h
  split at h
  ·cases h; rfl
  ·cases h
def Codec.str : Codec T (List UInt8) where
 sz := 1
 k b := [.str b]
 p
  | .str b :: rest => some ([], b, rest)
  | _ => none
 klen _ := rfl
 ok := by
  intro cs ps x rest h _ j hj c hc
  have : j = 0 := by omega
  subst this
  split at h
  ·cases h
   simp at hc
   subst hc
   exact ⟨_, rfl, fun E w Z ρ v h => pure_of rfl h⟩
  ·cases h
 rest := by
  intro cs ps x rest h
  split at h
  ·cases h; rfl
  ·cases h
def Codec.sl [DecidableEq Tag] (t : Tag) : Codec T (List (T t)) where
 sz := 1
 k l := [.ro t l]
 p
  | .ro t' l :: rest => match decEq t' t with | .isTrue h => some ([], h ▸ l, rest) | .isFalse _ => none
  | .lit (.slice none 0 0) :: rest => some ([], [], rest)
  | _ => none
 klen _ := rfl
 ok := by
  intro cs ps x rest h _ j hj c hc
  have : j = 0 := by omega
  subst this
  split at h
  ·split at h
   ·rename_i hk _
    cases h
    subst hk
    simp at hc
    subst hc
    exact ⟨_, rfl, fun E w Z ρ v h => pure_of rfl h⟩
   ·cases h
  ·cases h
   simp at hc
   subst hc
   refine ⟨_, rfl, fun E w Z ρ v h => ?_⟩
   cases h with
   | pure h => cases h with | lit _ => exact .ronil _ _ _
  ·cases h
 rest := by
  intro cs ps x rest h
  split at h
  ·split at h
   ·cases h; rfl
   ·cases h
  ·cases h; rfl
  ·cases h
def Codec.unit : Codec T Unit where
 sz := 0
 k _ := []
 p cs := some ([], (), cs)
 klen _ := rfl
 ok := by intro cs ps x rest h _ j hj; omega
 rest := by intro cs ps x rest h; cases h; simp
def Codec.pair {α β : Type} (a : Codec T α) (b : Codec T β) : Codec T (α × β) where
 sz := a.sz + b.sz
 k x := a.k x.1 ++ b.k x.2
 p cs := match a.p cs with
  | some (ps, x, r) => match b.p r with
   | some (qs, y, r') => some (ps ++ qs, (x, y), r')
   | none => none
  | none => none
 klen x := by simp [a.klen, b.klen]
 ok := by
  intro cs ps x rest h hps j hj c hc
  split at h
  ·rename_i p1 x1 r1 h1
   split at h
   ·rename_i p2 x2 r2 h2
    cases h
    obtain ⟨g1, g2⟩ := hps.append
    by_cases hlt : j < a.sz
    ·rw [List.getElem?_append_left (by rw [a.klen]; exact hlt)] at hc
     exact a.ok _ _ _ _ h1 g1 j hlt c hc
    ·rw [List.getElem?_append_right (by rw [a.klen]; omega), a.klen] at hc
     obtain ⟨d, hd, hr⟩ := b.ok _ _ _ _ h2 g2 (j - a.sz) (by omega) c hc
     rw [a.rest _ _ _ _ h1, List.getElem?_drop] at hd
     exact ⟨d, by rw [← hd]; congr 1; omega, hr⟩
   ·cases h
  ·cases h
 rest := by
  intro cs ps x rest h
  split at h
  ·rename_i p1 x1 r1 h1
   split at h
   ·rename_i p2 x2 r2 h2
    cases h
    rw [b.rest _ _ _ _ h2, a.rest _ _ _ _ h1, List.drop_drop]
   ·cases h
  ·cases h
def Codec.iso {α β : Type} (a : Codec T α) (f : β → α) (g : α → β) (hfg : ∀ x, f (g x) = x) : Codec T β where
 sz := a.sz
 k x := a.k (f x)
 p cs := match a.p cs with
  | some (ps, x, r) => some (ps, g x, r)
  | none => none
 klen x := a.klen _
 ok := by
  intro cs ps x rest h hps j hj c hc
  split at h
  ·rename_i p1 x1 r1 h1
   cases h
   rw [hfg] at hc
   exact a.ok _ _ _ _ h1 hps j hj c hc
  ·cases h
 rest := by
  intro cs ps x rest h
  split at h
  ·rename_i p1 x1 r1 h1
   cases h
   exact a.rest _ _ _ _ h1
  ·cases h
def Codec.un {α : Type} (a : Codec T α) (cs : List (CV T)) : Option (List Prop × α) :=
 match a.p cs with
 | some (ps, x, []) => some (ps, x)
 | _ => none
theorem Codec.un_ok {α : Type} (a : Codec T α) {cs : List (CV T)} {ps : List Prop} {x : α} (h : a.un cs = some (ps, x)) (hps : All ps) (j : Nat) (c : CV T) (hc : (a.k x)[j]? = some c) :
  ∃ d, cs[j]? = some d ∧ ∀ (E : Enc T) w Z ρ v, RC E w Z ρ d v → PR E w Z c v := by
 unfold Codec.un at h
 split at h
 ·rename_i h1
  cases h
  exact a.ok _ _ _ _ h1 hps j (by rw [← a.klen x]; exact (List.getElem?_eq_some_iff.1 hc).1) c hc
 ·cases h
end
theorem ite_some {α : Type} {C : Prop} [Decidable C] {A B : Option α} {r : α} (h : (if C then A else B) = some r) : (C ∧ A = some r) ∨ (¬ C ∧ B = some r) := by
 split at h
 ·exact .inl ⟨‹_›, h⟩
 ·exact .inr ⟨‹_›, h⟩
theorem guard_some {α : Type} {C : Prop} [Decidable C] {A : Option α} {r : α} (h : (if C then A else none) = some r) : C ∧ A = some r := by
 split at h
 ·exact ⟨‹_›, h⟩
 ·cases h
theorem bind_some {α β : Type} {x : Option α} {f : α → Option β} {r : β} (h : x.bind f = some r) : ∃ a, x = some a ∧ f a = some r := Option.bind_eq_some_iff.1 h
inductive Out (α β : Type) where
 | done (a : α)
 | go (b : β)
inductive Step (α β : Type) where
 | next (a : α)
 | stop (b : β)
section
variable {Tag : Type} {T : Tag → Type} {V : Env T} {P : Program} {n m : Nat} {Γ : Ent} {S : St T} {Q : Exit → St T → Prop}
theorem awp_mono {c : Code} {Q' : Exit → St T → Prop} (h : AWp V P n m Γ c Q' S) (hq : ∀ e S', Q' e S' → Q e S') : AWp V P n m Γ c Q S :=
 fun Z ρ a w ha => Code.wp_mono (fun e a' w' ⟨S', Z', ρ', h1, h2⟩ => ⟨S', Z', ρ', hq e S' h1, h2⟩) (h Z ρ a w ha)
theorem awp_join {x y : Code} (J : St T → Prop) (h1 : AWp V P n m Γ x (AThen J Q) S) (h2 : ∀ S', J S' → AWp V P n m Γ y Q S') : AWp V P n m Γ (.seq x y) Q S :=
 awp_seq (awp_mono h1 fun e S' h => by cases e <;> first | exact h2 S' h | exact h)
end
end Go.Proofs.YtahpbjjfpbmaiaaDoor.Eng
namespace Go.Proofs.YtahpbjjfpbmaiaaDoor.Eng
open Go.RowKit (Below)
section
variable {Tag : Type} {T : Tag → Type} {V : Env T} {P : Program} {n m : Nat} {Γ : Ent} {S : St T} {Q : Exit → St T → Prop}
variable {Z : Nat → Prop} {ρ : Nat → Option (Nat × Nat × Nat)} {a : Act} {w : World}
theorem Abs.look (h : Abs V n m Γ S Z ρ a w) {t : Nat} {r : AV T} (hr : RA V.E w Z ρ r (a.tmps.getD t undef)) : Abs V n m Γ (S.put (some t) r) Z ρ a w :=
 { h with
  tmps := fun s v hv => by
   simp only [St.put] at hv
   rw [look_cons] at hv
   by_cases hs : s = t
   ·subst hs; rw [if_pos rfl] at hv; cases hv; exact hr
   ·rw [if_neg hs, look_del, if_neg hs] at hv; exact h.tmps s v hv }
theorem awp_nilsplit {c : Code} (t : Nat) {tg : Tag} {xs : List (T tg)} (hl : look t S.tmps = some (.cv (.ro tg xs)))
  (h1 : ∀ cap, xs = [] → AWp V P n m Γ c Q (S.put (some t) (.cv (.lit (.slice none 0 cap))))) (h2 : AWp V P n m Γ c Q (S.put (some t) (.cv (.ron tg xs)))) : AWp V P n m Γ c Q S := by
 intro Z ρ a w ha
 have hx := ha.tmps _ _ hl
 generalize hv : a.tmps.getD t undef = v at hx
 cases hx with | cv hx =>
 cases hx with | pure hx =>
 cases hx with
 | ronil _ A cap =>
  cases A with
  | none => exact h1 cap rfl Z ρ a w (ha.look (by rw [hv]; exact .cv (.pure (.lit rfl))))
  | some A => exact h2 Z ρ a w (ha.look (by rw [hv]; exact .cv (.ron (.ronil _ _ _))))
 | ro _ _ ad cap u hz hcap hcell hrel => exact h2 Z ρ a w (ha.look (by rw [hv]; exact .cv (.ron (.ro _ _ ad cap u hz hcap hcell hrel))))
theorem awp_nilown {c : Code} (t id : Nat) (tg : Tag) (hl : look t S.tmps = some (.cv (.lit (.slice none 0 0)))) (hok : (Nat.ble m id && !S.named id) = true)
  (h : AWp V P n m Γ c Q ((S.new id (.lst tg [])).put (some t) (.cv (.own tg id)))) : AWp V P n m Γ c Q S := by
 intro Z ρ a w ha
 simp only [Bool.and_eq_true, Bool.not_eq_true'] at hok
 have hx := ha.tmps _ _ hl
 generalize hv : a.tmps.getD t undef = v at hx
 cases hx with | cv hx =>
 cases hx with | pure hx =>
 cases hx with
 | lit =>
  have hn := ha.claim V (id := id) (bc := none) (Nat.le_of_ble_eq_true hok.1) hok.2 (fun _ _ h => by cases h) (B := .lst tg []) rfl
  exact h Z _ a w (hn.look (by rw [hv]; exact .cv (.ownv (by unfold updO; rw [if_pos rfl]))))
theorem awp_nilownc {c : Code} (b pos id : Nat) (tg : Tag) (cs : List (CV T)) (hl : Eng.look b S.heap = some (.raw cs)) (hc : cs[pos]? = some (.lit (.slice none 0 0))) (hne : Nat.beq b id = false) (hok : (Nat.ble m id && !S.named id) = true)
  (h : AWp V P n m Γ c Q ⟨S.tmps, (id, .lst tg []) :: (b, .raw (cs.set pos (.own tg id))) :: del id (del b S.heap)⟩) : AWp V P n m Γ c Q S := by
 intro Z ρ a w ha
 simp only [Bool.and_eq_true, Bool.not_eq_true'] at hok
 have hne' : b ≠ id := fun e => by subst e; simp at hne
 have hn := ha.claim V (id := id) (bc := none) (Nat.le_of_ble_eq_true hok.1) hok.2 (fun _ _ h => by cases h) (B := .lst tg []) rfl
 have hlook : ∀ i blk, Eng.look i ((id, Blk.lst tg []) :: (b, .raw (cs.set pos (.own tg id))) :: del id (del b S.heap)) = some blk → (i = id ∧ blk = .lst tg []) ∨ (i ≠ id ∧ i = b ∧ blk = .raw (cs.set pos (.own tg id))) ∨ (i ≠ id ∧ i ≠ b ∧ Eng.look i S.heap = some blk) := fun i blk hl => by
  rw [look_cons] at hl
  by_cases hi : i = id
  ·rw [if_pos hi] at hl; cases hl; exact .inl ⟨hi, rfl⟩
  ·rw [if_neg hi, look_cons] at hl
   by_cases hb : i = b
   ·rw [if_pos hb] at hl; cases hl; exact .inr (.inl ⟨hi, hb, rfl⟩)
   ·rw [if_neg hb, look_del, if_neg hi, look_del, if_neg hb] at hl; exact .inr (.inr ⟨hi, hb, hl⟩)
 have hold : ∀ i blk, i ≠ id → Eng.look i S.heap = some blk → Eng.look i (S.new id (.lst tg [])).heap = some blk := fun i blk hi hl => by
  simp only [St.new]; rw [look_cons, if_neg hi, look_del, if_neg hi]; exact hl
 have hnew : Eng.look id (S.new id (.lst tg [])).heap = some (.lst tg []) := by simp only [St.new]; rw [look_cons, if_pos rfl]
 have hrel : ∀ i blk, Eng.look i ((id, Blk.lst tg []) :: (b, .raw (cs.set pos (.own tg id))) :: del id (del b S.heap)) = some blk → ∃ blk0, Eng.look i (S.new id (.lst tg [])).heap = some blk0 := fun i blk hl' => by
  rcases hlook i blk hl' with ⟨rfl, rfl⟩ | ⟨hi, rfl, rfl⟩ | ⟨hi, hb, hl1⟩
  ·exact ⟨_, hnew⟩
  ·exact ⟨_, hold _ _ hi hl⟩
  ·exact ⟨_, hold _ _ hi hl1⟩
 refine h Z _ a w { hn with
  own := fun i blk b1 c1 hl' hr => by
   obtain ⟨blk0, h0⟩ := hrel i blk hl'
   exact hn.own i blk0 b1 c1 h0 hr
  inj := fun i i' blk blk' b1 c1 c2 hl1 hl2 hr hr' => by
   obtain ⟨blk0, h0⟩ := hrel i blk hl1
   obtain ⟨blk1, h1⟩ := hrel i' blk' hl2
   exact hn.inj i i' blk0 blk1 b1 c1 c2 h0 h1 hr hr'
  blk := fun i blk hl' => by
   rcases hlook i blk hl' with ⟨rfl, rfl⟩ | ⟨hi, rfl, rfl⟩ | ⟨hi, hb, hl1⟩
   ·exact hn.blk _ _ hnew
   ·have h0 := hn.blk _ _ (hold _ _ hi hl)
    cases hbc : updO ρ id none i with
    | none => rw [hbc] at h0; exact h0.elim
    | some p =>
     rw [hbc] at h0
     obtain ⟨bb, cc⟩ := p
     obtain ⟨arr, e, g1, g2, g3⟩ := h0
     refine ⟨arr, e, g1, by simpa using g2, fun j c0 u hj hu => ?_⟩
     by_cases hjp : j = pos
     ·subst hjp
      have hlt : j < cs.length := (List.getElem?_eq_some_iff.1 hc).1
      rw [List.getElem?_set] at hj
      simp [hlt] at hj
      subst hj
      have := g3 j _ u hc hu
      cases this with | pure this => cases this with
      | lit => exact .ownv (by unfold updO; rw [if_pos rfl])
     ·rw [List.getElem?_set_ne (fun e => hjp e.symm)] at hj
      exact g3 j c0 u hj hu
   ·exact hn.blk _ _ (hold _ _ hi hl1) }
end
def obind {α β γ : Type} (o : Option (Out α β)) (d : α → γ) (f : β → Option γ) : Option γ :=
 match o with
 | none => none
 | some (.done a) => some (d a)
 | some (.go x) => f x
theorem obind_some {α β γ : Type} {o : Option (Out α β)} {d : α → γ} {f : β → Option γ} {r : γ} (h : obind o d f = some r) : ∃ p, o = some p ∧ ((∃ a, p = .done a ∧ d a = r) ∨ ∃ x, p = .go x ∧ f x = some r) := by
 unfold obind at h
 split at h
 ·cases h
 ·rename_i a; cases h; exact ⟨_, rfl, .inl ⟨a, rfl, rfl⟩⟩
 ·rename_i x; exact ⟨_, rfl, .inr ⟨x, rfl, h⟩⟩
end Go.Proofs.YtahpbjjfpbmaiaaDoor.Eng
namespace Go.Proofs.YtahpbjjfpbmaiaaDoor.Eng
open Go.RowKit (Below)
section
variable {Tag : Type} {T : Tag → Type} {V : Env T}
variable {P : Program} {n m : Nat} {Γ : Ent} {S : St T} {Z : Nat → Prop} {ρ : Nat → Option (Nat × Nat × Nat)} {a : Act} {w : World} {Q : Exit → St T → Prop}
def EndsE (P : Program) (V : Env T) (fn : Func) (r : AV T) (H' : List (Nat × Blk T)) (e : Exit) (S : St T) : Prop :=
 (e = .normal ∨ e = .ret) ∧ ∃ x, evRes V.E P S fn = some x ∧ coA x r = r ∧ (S.keep [] (H'.map (·.1))).co ⟨[], H'⟩ = ⟨[], H'⟩
theorem ecall_of {f : FuncId} {fn : Func} {c : Code} {args : List (AV T)} {H : List (Nat × Blk T)} {fx : List Nat} {r : AV T} {H' : List (Nat × Blk T)} (hf : P.funcs[f]? = some fn) (hb : fn.body = some c) (hcal : callable P f = true) (hn : fn.ntmps = n) (hle : Nat.ble args.length n = true)
  (hids : (H.all (fun p => Nat.blt p.1 100) && fx.all (fun i => Nat.blt i m)) = true)
  (h : ∀ Γ : Ent, AWp V P n m Γ c (EndsE P V fn r H') ⟨args0 0 args, H⟩) : ECall V P f args H fx r H' := by
 refine ⟨hcal, fun w Z ρ vs hZ hsz hargs hH => ?_⟩
 simp only [Bool.and_eq_true, List.all_eq_true] at hids
 let Γ : Ent := { w0 := w, Z0 := Z, D := fun id b => id < 100 ∧ ∃ blk c, look id H = some blk ∧ ρ id = some (b, c), st := fx.map fun i => (i, ρ i) }
 refine calls_of_wp hf hb ?_
 have ha : Abs V n m Γ ⟨args0 0 args, H⟩ Z ρ { tmps := vs ++ Array.replicate (fn.ntmps - vs.size) undef, defers := [] } w := {
  defers := rfl
  size := by have := Nat.le_of_ble_eq_true hle; simp [hn]; omega
  tmps := fun t v hv => by
   obtain ⟨_, hv⟩ := look_args0 args 0 t v hv
   simp only [Nat.sub_zero] at hv
   have ht : t < vs.size := by rw [hsz]; exact (List.getElem?_eq_some_iff.1 hv).1
   have := hargs t v vs[t] hv (by simp [ht])
   have e : (vs ++ Array.replicate (fn.ntmps - vs.size) undef).getD t undef = vs[t] := by
    rw [Array.getD_eq_getD_getElem?, Array.getElem?_append_left ht]; simp [ht]
   rw [e]; exact this
  os := rfl
  tape := rfl
  output := rfl
  hsize := Nat.le_refl _
  old := fun _ _ _ => rfl
  stm := fun p hp => by
   obtain ⟨i, hi, rfl⟩ := List.mem_map.1 hp
   have := hids.2 i hi
   exact Nat.le_of_ble_eq_true this
  dlt := fun _ _ h => h.1
  st := fun p hp => by
   obtain ⟨i, hi, rfl⟩ := List.mem_map.1 hp
   rfl
  Z0 := fun _ h => h
  Zold := fun _ h _ => h
  Zlt := hZ.lt
  glb := hZ.glb
  own := fun id blk b c hl hr => by
   obtain ⟨h1, h2⟩ := hH.own id blk b c hl hr
   have := hids.1 (id, blk) (look_mem hl)
   exact ⟨h1, h2, .inr ⟨Nat.le_of_ble_eq_true this, blk, c, hl, hr⟩⟩
  inj := hH.inj
  blk := hH.blk }
 refine Code.wp_mono (fun e a' w' hq => ?_) (h Γ Z ρ _ w ha)
 obtain ⟨S', Z', ρ', ⟨he, x, h1, h2, h3⟩, ha'⟩ := hq
 obtain ⟨v, e1, e2⟩ := evRes_sound h1 ha'
 have e3 := coA_sound (y := r) e2
 rw [h2] at e3
 have hB := (ha'.keep [] (H'.map (·.1))).co V ⟨[], H'⟩
 rw [h3] at hB
 have key : ∃ v, (results fn a'.tmps).run P w' = .ok v w' ∧ (∃ v2 Z2 ρ2, Ending.returned v = .returned v2 ∧ EPost V.E w w' Z Z2 ρ ρ2 H H' fx ∧ RA V.E w' Z2 ρ2 r v2) := by
  refine ⟨v, e1, v, Z', ρ', rfl, ⟨⟨ha'.os, ha'.tape, ha'.output, ha'.hsize, fun b hb hn => ha'.old b hb fun id hd => hn ?_, fun b hb => ha'.Z0 b hb, fun b hb => ?_⟩, fun id hid => ?_, ⟨fun id blk b c hl hr => ?_, hB.inj, hB.blk⟩, fun id blk b c hl hr => ?_⟩, e3⟩
  ·obtain ⟨_, blk, c, h4, h5⟩ := hd
   exact ⟨id, blk, c, h4, h5⟩
  ·rcases Nat.lt_or_ge b w.heap.size with hlt | hge
   ·exact .inl (ha'.Zold b hb hlt)
   ·exact .inr ⟨hge, ha'.Zlt b hb⟩
  ·exact ha'.st (id, ρ id) (List.mem_map.2 ⟨id, hid, rfl⟩)
  ·obtain ⟨g1, g2, _⟩ := hB.own id blk b c hl hr
   exact ⟨g1, g2⟩
  ·rcases (hB.own id blk b c hl hr).2.2 with g | ⟨_, blk0, c0, g1, g2⟩
   ·exact .inl g
   ·exact .inr ⟨blk0, c0, g1, g2⟩
 rcases he with rfl | rfl
 ·exact ⟨ha'.defers, key⟩
 ·exact ⟨ha'.defers, key⟩
theorem ECall.pcall {f : FuncId} {args : List (AV T)} {r : AV T} (h : ECall V P f args [] [] r []) (hr : r.clean = true) : PCall V P f args r := by
 refine ⟨h.1, fun w Z vs hZ hsz hargs => (h.2 w Z (fun _ => none) vs hZ hsz hargs ⟨fun id blk b c hl => (by cases hl), fun id id' blk blk' b c c' hl => (by cases hl), fun id blk hl => (by cases hl)⟩).mono fun e w' he => ?_⟩
 obtain ⟨v, Z', ρ', rfl, hp, hra⟩ := he
 refine ⟨v, Z', rfl, ⟨⟨hp.onto.os, hp.onto.tape, hp.onto.output, hp.onto.size, fun k hk => hp.onto.block k hk fun ⟨_, _, _, h, _⟩ => by cases h⟩, hp.onto.sub, hp.onto.fresh⟩, ?_⟩
 exact hra.mono V.E (fun _ h => h) (fun _ _ => rfl) fun id hid => by rw [AV.clean_names hr id] at hid; cases hid
theorem ECall.fcall {f : FuncId} {args : List (AV T)} {t : Tag} {xs : List (T t)} (h : ECall V P f args [] [] (.cv (.own t 100)) [(100, .lst t xs)]) : FCall V P f args t xs := by
 refine ⟨h.1, fun w Z vs hZ hsz hargs => (h.2 w Z (fun _ => none) vs hZ hsz hargs ⟨fun id blk b c hl => (by cases hl), fun id id' blk blk' b c c' hl => (by cases hl), fun id blk hl => (by cases hl)⟩).mono fun e w' he => ?_⟩
 obtain ⟨v, Z', ρ', rfl, hp, hra⟩ := he
 refine ⟨v, Z', rfl, ⟨⟨hp.onto.os, hp.onto.tape, hp.onto.output, hp.onto.size, fun k hk => hp.onto.block k hk fun ⟨_, _, _, h, _⟩ => by cases h⟩, hp.onto.sub, hp.onto.fresh⟩, ?_⟩
 have hb := hp.rel.blk 100 (.lst t xs) rfl
 cases hra with | cv hra =>
 cases hra with
 | pure hra => cases hra
 | ownv hr => rw [hr] at hb; exact .inl ⟨rfl, hb⟩
 | @own _ _ n b cap hr =>
  obtain ⟨g1, g2⟩ := hp.rel.own 100 (.lst t xs) b _ rfl hr
  rcases hp.from_ 100 (.lst t xs) b _ rfl hr with g3 | ⟨_, _, g3, _⟩
  ·rw [hr] at hb
   obtain ⟨rfl, g4⟩ := hb
   exact .inr ⟨b, cap, g3, g1, g2, rfl, rfl, g4⟩
  ·cases g3
theorem ECall.co {f : FuncId} {args args' : List (AV T)} {H H0 : List (Nat × Blk T)} {fx : List Nat} {r : AV T} {H' : List (Nat × Blk T)} (h : ECall V P f args' H0 fx r H') (ha : coA.coAL args args' = args') (hH : coH H H0 = H0) : ECall V P f args H fx r H' := by
 refine ⟨h.1, fun w Z ρ vs hZ hsz hargs hR => ?_⟩
 obtain ⟨g1, g2⟩ := coAL_sound (E := V.E) (w := w) (Z := Z) (ρ := ρ) args args'
 rw [ha] at g1 g2
 have key : ∀ id blk, look id H0 = some blk → ∃ b0 u, look id H = some b0 ∧ (blk = b0 ∨ blk = coB b0 u) := fun id blk hl => by
  rw [← hH] at hl; exact look_coH hl
 have hR0 : HRel V.E w Z ρ H0 := {
  own := fun id blk b c hl hr => by obtain ⟨b0, u, h1, _⟩ := key id blk hl; exact hR.own id b0 b c h1 hr
  inj := fun id id' blk blk' b c c' hl hl' hr hr' => by
   obtain ⟨b0, u, h1, _⟩ := key id blk hl
   obtain ⟨b1, u1, h2, _⟩ := key id' blk' hl'
   exact hR.inj id id' b0 b1 b c c' h1 h2 hr hr'
  blk := fun id blk hl => by
   obtain ⟨b0, u, h1, h2⟩ := key id blk hl
   rcases h2 with rfl | rfl
   ·exact hR.blk id _ h1
   ·exact coB_sound (hR.blk id b0 h1) }
 refine (h.2 w Z ρ vs hZ (by omega) (fun i x v hx hv => g2 i x v hx fun c' hc' => hargs i c' v hc' hv) hR0).mono fun e w' he => ?_
 obtain ⟨v, Z', ρ', rfl, hp, hra⟩ := he
 refine ⟨v, Z', ρ', rfl, ⟨⟨hp.onto.os, hp.onto.tape, hp.onto.output, hp.onto.size, fun b hb hn => hp.onto.block b hb fun ⟨id, blk, c, h1, h2⟩ => hn ?_, hp.onto.sub, hp.onto.fresh⟩, hp.fx, hp.rel, fun id blk b c h1 h2 => ?_⟩, hra⟩
 ·obtain ⟨b0, u, h3, _⟩ := key id blk h1
  exact ⟨id, b0, c, h3, h2⟩
 ·rcases hp.from_ id blk b c h1 h2 with h3 | ⟨blk0, c0, h3, h4⟩
  ·exact .inl h3
  ·obtain ⟨b0, u, h5, _⟩ := key id blk0 h3
   exact .inr ⟨b0, c0, h5, h4⟩
def St.ren (σ : List (Nat × Nat)) (S : St T) : St T := ⟨S.tmps.map fun p => (p.1, p.2.ren fun i => (look i σ).getD i), renH (fun i => (look i σ).getD i) S.heap⟩
def renOk (m : Nat) (σ : List (Nat × Nat)) (S : St T) : Bool :=
 nodupN (σ.map (·.1)) && nodupN (σ.map (·.2)) && Nat.ble m 100 && σ.all (fun p => Nat.beq p.1 p.2 || (Nat.ble 100 p.1 && Nat.ble 100 p.2)) &&
 S.tmps.all (fun p => p.2.inB fun i => elemN i (σ.map (·.1))) && S.heap.all (fun p => elemN p.1 (σ.map (·.1)) && p.2.inB fun i => elemN i (σ.map (·.1))) && nodupN (S.heap.map (·.1))
theorem Abs.ren (ha : Abs V n m Γ S Z ρ a w) {σ : List (Nat × Nat)} (hok : renOk m σ S = true) : ∃ ρ', Abs V n m Γ (S.ren σ) Z ρ' a w := by
 unfold renOk at hok
 simp only [Bool.and_eq_true, List.all_eq_true, Bool.or_eq_true] at hok
 obtain ⟨⟨⟨⟨⟨⟨k1, k2⟩, k3⟩, k4⟩, k5⟩, k6⟩, k7⟩ := hok
 let e : Eff T := { hids := [], fx := [], r := .any, H' := [], σ := σ }
 have hfdef : ∀ i, e.f i = (Eng.look i σ).getD i := fun i => rfl
 let ρ2 : Nat → Option (Nat × Nat × Nat) := fun j => match inv j σ with | some i => ρ i | none => ρ j
 have hρf : ∀ i, elemN i (σ.map (·.1)) = true → ρ2 (e.f i) = ρ i := fun i hi => by
  show (match inv (e.f i) σ with | some i => ρ i | none => ρ (e.f i)) = ρ i
  have := Eff.inv_f (e := e) k1 k2 hi
  rw [show inv (e.f i) σ = some i from this]
 have hlook : ∀ j blk, Eng.look j (S.ren σ).heap = some blk → ∃ i b0, Eng.look i S.heap = some b0 ∧ elemN i (σ.map (·.1)) = true ∧ b0.inB (fun i => elemN i (σ.map (·.1))) = true ∧ e.f i = j ∧ blk = b0.ren e.f := fun j blk hl => by
  obtain ⟨i, b0, h1, h2, h3⟩ := look_renH (f := e.f) (H := S.heap) hl
  have h4 := k6 (i, b0) h1
  exact ⟨i, b0, mem_look (nodupN_spec k7) h1, h4.1, h4.2, h2, h3⟩
 have hge : ∀ i, elemN i (σ.map (·.1)) = true → e.f i = i ∨ (100 ≤ i ∧ 100 ≤ e.f i) := fun i hi => by
  obtain ⟨⟨i', j⟩, hm, rfl⟩ := List.mem_map.1 (elemN_mem hi)
  have h1 := Eff.f_mem (e := e) k1 hm
  rcases k4 _ hm with h | h
  ·left; rw [h1]; exact (Nat.eq_of_beq_eq_true h).symm
  ·right; rw [h1]; exact ⟨Nat.le_of_ble_eq_true h.1, Nat.le_of_ble_eq_true h.2⟩
 refine ⟨ρ2, { ha with
  tmps := fun t x hx => by
   simp only [St.ren] at hx
   rw [look_map, Option.map_eq_some_iff] at hx
   obtain ⟨x0, h1, rfl⟩ := hx
   have h2 := k5 (t, x0) (look_mem h1)
   exact RA.ren (ρ := ρ2) (f := e.f) ((ha.tmps t x0 h1).mono V.E (fun _ h => h) (fun _ _ => rfl) fun id hid => hρf id (AV.inB_names h2 hid))
  st := fun p hp => by
   have h1 := ha.stm p hp
   have h2 := Nat.le_of_ble_eq_true k3
   rw [← ha.st p hp]
   show (match inv p.1 σ with | some i => ρ i | none => ρ p.1) = ρ p.1
   cases hi : inv p.1 σ with
   | none => rfl
   | some i =>
    have hm := inv_some hi
    rcases k4 _ hm with h | h
    ·exact congrArg ρ (Nat.eq_of_beq_eq_true h)
    ·have := Nat.le_of_ble_eq_true h.2; simp only at this; omega
  own := fun j blk b c hl hr => by
   obtain ⟨i, b0, h1, h2, h3, rfl, rfl⟩ := hlook j blk hl
   rw [hρf i h2] at hr
   obtain ⟨g1, g2, g3⟩ := ha.own i b0 b c h1 hr
   refine ⟨g1, g2, ?_⟩
   rcases g3 with g3 | g3
   ·exact .inl g3
   ·have := ha.dlt _ _ g3
    rcases hge i h2 with h | h
    ·rw [h]; exact .inr g3
    ·omega
  inj := fun j j' blk blk' b c c' hl hl' hr hr' => by
   obtain ⟨i, b0, h1, h2, h3, rfl, rfl⟩ := hlook j blk hl
   obtain ⟨i', b0', h1', h2', h3', rfl, rfl⟩ := hlook j' blk' hl'
   rw [hρf i h2] at hr
   rw [hρf i' h2'] at hr'
   rw [ha.inj i i' b0 b0' b c c' h1 h1' hr hr']
  blk := fun j blk hl => by
   obtain ⟨i, b0, h1, h2, h3, rfl, rfl⟩ := hlook j blk hl
   rw [hρf i h2]
   exact BR.ren (ρ := ρ2) (f := e.f) (BR.mono (fun _ h => h) (fun _ _ => rfl) (fun _ _ _ => rfl) (ha.blk i b0 h1) fun id hid => hρf id (Blk.inB_names h3 hid)) }⟩
theorem awp_ren {c : Code} {S' : St T} (ts ids : List Nat) (σ : List (Nat × Nat)) (hok : renOk m σ (S.keep ts ids) = true) (hk : ((S.keep ts ids).ren σ).co S' = S') (h : AWp V P n m Γ c Q S') : AWp V P n m Γ c Q S := fun Z ρ a w ha => by
 obtain ⟨ρ', h1⟩ := (ha.keep ts ids).ren hok
 exact h Z ρ' a w (hk ▸ h1.co V S')
theorem awp_freeze {c : Code} {S' : St T} (ts ids : List Nat) (id : Nat) {blk0 : Blk T} (hl : look id S.heap = some blk0) (hid : Nat.ble 100 id = true) (hk : ((S.frz V.E id blk0).keep ts ids).co S' = S') (h : AWp V P n m Γ c Q S') : AWp V P n m Γ c Q S := fun Z ρ a w ha =>
 h _ ρ a w (hk ▸ ((ha.frz hl (Nat.le_of_ble_eq_true hid)).keep ts ids).co V S')
def LoopFrom (V : Env T) (P : Program) (n m : Nat) (Γ : Ent) (c : Code) (Q : Exit → St T → Prop) (S : St T) : Prop :=
 ∀ Z ρ a w, Abs V n m Γ S Z ρ a w → ∀ (b : Frame) (kk : List Item) (cs : List Frame), ∃ e a' w', (∃ S' Z' ρ', Q e S' ∧ Abs V n m Γ S' Z' ρ' a' w') ∧ Arrives P (lone (b.at a (.code c :: .inLoop c :: kk)) cs w) b kk cs e a' w'
theorem awp_loop_of {c : Code} (h : LoopFrom V P n m Γ c Q S) : AWp V P n m Γ (.loop c) Q S := fun Z ρ a w ha b kk cs => by
 obtain ⟨e, a', w', hq, harr⟩ := h Z ρ a w ha b kk cs
 exact ⟨e, a', w', hq, .of_steps (.one step_loop) harr⟩
theorem loop_step {c : Code} (h : AWp V P n m Γ c (AThen (LoopFrom V P n m Γ c Q) Q) S) : LoopFrom V P n m Γ c Q S := fun Z ρ a w ha b kk cs => by
 obtain ⟨e, a₁, w₁, hq, harr⟩ := h Z ρ a w ha b (.inLoop c :: kk) cs
 obtain ⟨S', Z', ρ', hq, ha'⟩ := hq
 cases e with
 | normal =>
  obtain ⟨e₂, a₂, w₂, hq₂, harr₂⟩ := hq Z' ρ' a₁ w₁ ha' b kk cs
  exact ⟨e₂, a₂, w₂, hq₂, .of_steps (Steps.trans harr (.one step_inLoop)) harr₂⟩
 | exit id => exact ⟨_, a₁, w₁, ⟨S', Z', ρ', hq, ha'⟩, .pass (x := .inLoop c) rfl (fun _ _ => .inl (by simp)) harr⟩
 | goto l => exact ⟨_, a₁, w₁, ⟨S', Z', ρ', hq, ha'⟩, .pass (x := .inLoop c) rfl (fun _ _ => .inl (by simp)) harr⟩
 | ret => exact ⟨_, a₁, w₁, ⟨S', Z', ρ', hq, ha'⟩, .pass (x := .inLoop c) rfl (fun _ _ => .inl (by simp)) harr⟩
 | panic ch => exact ⟨_, a₁, w₁, ⟨S', Z', ρ', hq, ha'⟩, .pass (x := .inLoop c) rfl (fun _ _ => .inl (by simp)) harr⟩
 | outgrown => exact ⟨_, a₁, w₁, ⟨S', Z', ρ', hq, ha'⟩, .pass (x := .inLoop c) rfl (fun _ _ => .inl (by simp)) harr⟩
theorem loop_keep {c : Code} {ts ids : List Nat} {S' : St T} (hk : (S.keep ts ids).co S' = S') (h : LoopFrom V P n m Γ c Q S') : LoopFrom V P n m Γ c Q S :=
 fun Z ρ a w ha => h Z ρ a w (hk ▸ (ha.keep ts ids).co V S')
theorem loop_ind {c : Code} (R : Nat → St T → Prop) (hr : ∀ k S, R k S → AWp V P n m Γ c (AThen (fun S' => ∃ k', k' < k ∧ R k' S') Q) S) {k : Nat} (h0 : R k S) : LoopFrom V P n m Γ c Q S := by
 induction k using Nat.strongRecOn generalizing S with
 | _ k ih =>
  refine loop_step fun Z ρ a w ha => Code.wp_mono (fun e a' w' hq => ?_) (hr k S h0 Z ρ a w ha)
  obtain ⟨S', Z', ρ', hq, ha'⟩ := hq
  refine ⟨S', Z', ρ', ?_, ha'⟩
  cases e with
  | normal => obtain ⟨k', hlt, hR⟩ := hq; exact ih k' hlt hR
  | _ => exact hq
end
end Go.Proofs.YtahpbjjfpbmaiaaDoor.Eng
namespace Go.Proofs.YtahpbjjfpbmaiaaDoor.Eng
open Go.RowKit (Below)
section
variable {Tag : Type} {T : Tag → Type} {V : Env T}
variable {P : Program} {n m : Nat} {Γ : Ent} {S : St T} {Z : Nat → Prop} {ρ : Nat → Option (Nat × Nat × Nat)} {a : Act} {w : World} {Q : Exit → St T → Prop}
def Turns (V : Env T) (n m : Nat) (Γ : Ent) (S S' : St T) : Prop := ∀ Z ρ a w, Abs V n m Γ S Z ρ a w → ∃ Z' ρ', Abs V n m Γ S' Z' ρ' a w
theorem Turns.refl : Turns V n m Γ S S := fun Z ρ a w h => ⟨Z, ρ, h⟩
theorem Turns.trans {S1 S2 : St T} (h : Turns V n m Γ S S1) (h' : Turns V n m Γ S1 S2) : Turns V n m Γ S S2 := fun Z ρ a w ha => by
 obtain ⟨Z1, ρ1, h1⟩ := h Z ρ a w ha
 exact h' Z1 ρ1 a w h1
theorem Turns.keep (ts ids : List Nat) {S' : St T} (hk : (S.keep ts ids).co S' = S') : Turns V n m Γ S S' := fun Z ρ a w ha => ⟨Z, ρ, hk ▸ (ha.keep ts ids).co V S'⟩
theorem Turns.ren (σ : List (Nat × Nat)) {S' : St T} (hok : renOk m σ S = true) (hk : S.ren σ = S') : Turns V n m Γ S S' := fun Z ρ a w ha => by
 obtain ⟨ρ', h⟩ := ha.ren hok
 exact ⟨Z, ρ', hk ▸ h⟩
theorem Turns.frz (id : Nat) {blk0 : Blk T} (hl : Eng.look id S.heap = some blk0) (hid : Nat.ble 100 id = true) {S' : St T} (hk : S.frz V.E id blk0 = S') : Turns V n m Γ S S' := fun Z ρ a w ha =>
 ⟨_, ρ, hk ▸ ha.frz hl (Nat.le_of_ble_eq_true hid)⟩
theorem Turns.nilown (t id : Nat) (tg : Tag) (hl : Eng.look t S.tmps = some (.cv (.lit (.slice none 0 0)))) (hok : (Nat.ble m id && !S.named id) = true) {S' : St T} (hk : (S.new id (.lst tg [])).put (some t) (.cv (.own tg id)) = S') :
  Turns V n m Γ S S' := by
 subst hk
 intro Z ρ a w ha
 simp only [Bool.and_eq_true, Bool.not_eq_true'] at hok
 have hx := ha.tmps _ _ hl
 generalize hv : a.tmps.getD t undef = v at hx
 cases hx with | cv hx =>
 cases hx with | pure hx =>
 cases hx with
 | lit =>
  have hn := ha.claim V (id := id) (bc := none) (Nat.le_of_ble_eq_true hok.1) hok.2 (fun _ _ h => by cases h) (B := .lst tg []) rfl
  exact ⟨Z, _, (hn.look (by rw [hv]; exact .cv (.ownv (by unfold updO; rw [if_pos rfl]))))⟩
theorem Turns.nilownc (b pos id : Nat) (tg : Tag) (cs : List (CV T)) (hl : Eng.look b S.heap = some (.raw cs)) (hc : cs[pos]? = some (.lit (.slice none 0 0))) (hne : Nat.beq b id = false) (hok : (Nat.ble m id && !S.named id) = true) {S' : St T} (hk : ⟨S.tmps, (id, .lst tg []) :: (b, .raw (cs.set pos (.own tg id))) :: del id (del b S.heap)⟩ = S') :
  Turns V n m Γ S S' := by
 subst hk
 intro Z ρ a w ha
 simp only [Bool.and_eq_true, Bool.not_eq_true'] at hok
 have hne' : b ≠ id := fun e => by subst e; simp at hne
 have hn := ha.claim V (id := id) (bc := none) (Nat.le_of_ble_eq_true hok.1) hok.2 (fun _ _ h => by cases h) (B := .lst tg []) rfl
 have hlook : ∀ i blk, Eng.look i ((id, Blk.lst tg []) :: (b, .raw (cs.set pos (.own tg id))) :: del id (del b S.heap)) = some blk → (i = id ∧ blk = .lst tg []) ∨ (i ≠ id ∧ i = b ∧ blk = .raw (cs.set pos (.own tg id))) ∨ (i ≠ id ∧ i ≠ b ∧ Eng.look i S.heap = some blk) := fun i blk hl => by
  rw [look_cons] at hl
  by_cases hi : i = id
  ·rw [if_pos hi] at hl; cases hl; exact .inl ⟨hi, rfl⟩
  ·rw [if_neg hi, look_cons] at hl
   by_cases hb : i = b
   ·rw [if_pos hb] at hl; cases hl; exact .inr (.inl ⟨hi, hb, rfl⟩)
   ·rw [if_neg hb, look_del, if_neg hi, look_del, if_neg hb] at hl; exact .inr (.inr ⟨hi, hb, hl⟩)
 have hold : ∀ i blk, i ≠ id → Eng.look i S.heap = some blk → Eng.look i (S.new id (.lst tg [])).heap = some blk := fun i blk hi hl => by
  simp only [St.new]; rw [look_cons, if_neg hi, look_del, if_neg hi]; exact hl
 have hnew : Eng.look id (S.new id (.lst tg [])).heap = some (.lst tg []) := by simp only [St.new]; rw [look_cons, if_pos rfl]
 have hrel : ∀ i blk, Eng.look i ((id, Blk.lst tg []) :: (b, .raw (cs.set pos (.own tg id))) :: del id (del b S.heap)) = some blk → ∃ blk0, Eng.look i (S.new id (.lst tg [])).heap = some blk0 := fun i blk hl' => by
  rcases hlook i blk hl' with ⟨rfl, rfl⟩ | ⟨hi, rfl, rfl⟩ | ⟨hi, hb, hl1⟩
  ·exact ⟨_, hnew⟩
  ·exact ⟨_, hold _ _ hi hl⟩
  ·exact ⟨_, hold _ _ hi hl1⟩
 exact ⟨Z, _, { hn with
  own := fun i blk b1 c1 hl' hr => by
   obtain ⟨blk0, h0⟩ := hrel i blk hl'
   exact hn.own i blk0 b1 c1 h0 hr
  inj := fun i i' blk blk' b1 c1 c2 hl1 hl2 hr hr' => by
   obtain ⟨blk0, h0⟩ := hrel i blk hl1
   obtain ⟨blk1, h1⟩ := hrel i' blk' hl2
   exact hn.inj i i' blk0 blk1 b1 c1 c2 h0 h1 hr hr'
  blk := fun i blk hl' => by
   rcases hlook i blk hl' with ⟨rfl, rfl⟩ | ⟨hi, rfl, rfl⟩ | ⟨hi, hb, hl1⟩
   ·exact hn.blk _ _ hnew
   ·have h0 := hn.blk _ _ (hold _ _ hi hl)
    cases hbc : updO ρ id none i with
    | none => rw [hbc] at h0; exact h0.elim
    | some p =>
     rw [hbc] at h0
     obtain ⟨bb, cc⟩ := p
     obtain ⟨arr, e, g1, g2, g3⟩ := h0
     refine ⟨arr, e, g1, by simpa using g2, fun j c0 u hj hu => ?_⟩
     by_cases hjp : j = pos
     ·subst hjp
      have hlt : j < cs.length := (List.getElem?_eq_some_iff.1 hc).1
      rw [List.getElem?_set] at hj
      simp [hlt] at hj
      subst hj
      have := g3 j _ u hc hu
      cases this with | pure this => cases this with
      | lit => exact .ownv (by unfold updO; rw [if_pos rfl])
     ·rw [List.getElem?_set_ne (fun e => hjp e.symm)] at hj
      exact g3 j c0 u hj hu
   ·exact hn.blk _ _ (hold _ _ hi hl1) }⟩
theorem awp_turn {c : Code} {S' : St T} (ht : Turns V n m Γ S S') (h : AWp V P n m Γ c Q S') : AWp V P n m Γ c Q S := fun Z ρ a w ha => by
 obtain ⟨Z', ρ', h'⟩ := ht Z ρ a w ha
 exact h Z' ρ' a w h'
theorem loop_turn {c : Code} {S' : St T} (ht : Turns V n m Γ S S') (h : LoopFrom V P n m Γ c Q S') : LoopFrom V P n m Γ c Q S := fun Z ρ a w ha => by
 obtain ⟨Z', ρ', h'⟩ := ht Z ρ a w ha
 exact h Z' ρ' a w h'
theorem awp_post {c : Code} {S1 S' : St T} (h : AWp V P n m Γ c (fun e S => e = .normal ∧ S = S1) S) (ht : Turns V n m Γ S1 S') (hQ : Q .normal S') : AWp V P n m Γ c Q S := fun Z ρ a w ha =>
 Code.wp_mono (fun e a' w' hq => by
  obtain ⟨S2, Z2, ρ2, ⟨rfl, rfl⟩, h2⟩ := hq
  obtain ⟨Z', ρ', h'⟩ := ht Z2 ρ2 a' w' h2
  exact ⟨S', Z', ρ', hQ, h'⟩) (h Z ρ a w ha)
theorem awp_conseq {c : Code} {Q' : Exit → St T → Prop} (h : AWp V P n m Γ c Q' S) (hq : ∀ e S', Q' e S' → ∃ S'', Turns V n m Γ S' S'' ∧ Q e S'') : AWp V P n m Γ c Q S := fun Z ρ a w ha =>
 Code.wp_mono (fun e a' w' hq' => by
  obtain ⟨S2, Z2, ρ2, h1, h2⟩ := hq'
  obtain ⟨S', ht, hQ⟩ := hq e S2 h1
  obtain ⟨Z', ρ', h'⟩ := ht Z2 ρ2 a' w' h2
  exact ⟨S', Z', ρ', hQ, h'⟩) (h Z ρ a w ha)
end
end Go.Proofs.YtahpbjjfpbmaiaaDoor.Eng
namespace Go.Proofs.YtahpbjjfpbmaiaaDoor.Eng
open Go.RowKit (Below)
open Go.ChangeShapes Go.WideShapes
section
variable {Tag : Type} {T : Tag → Type}
def ReadsAs (V : Env T) (P : Program) (t : TypeId) {α : Type} (c : Codec T α) (G : α → Prop) : Prop :=
 ∀ (H : Type) (enc : TypeId × Value → H) (W : World) (spare : Nat → Bool) (held : Bool) (fuel : Nat) (cs : List Value) (x : DataW H × List MemPlace),
  DataW.trod enc P W 0 spare held fuel t cs = some x → (∀ n ∈ x.1.weights P t, n ≤ reachBytes) → ∃ y, G y ∧ cs.length = c.sz ∧ ∀ (j : Nat) k v, (c.k y)[j]? = some k → cs[j]? = some v → PR V.E W (fun b => b < W.heap.size) k v
variable {V : Env T} {P : Program} {t : TypeId}
theorem reads_int {k : IntKind} (ht : P.underlying t = some (.int k)) : ReadsAs V P t (Codec.int k) (fun n => (Lit.int k n).wf = true) := by
 intro H enc W spare held fuel cs x h hwt
 obtain ⟨n, rfl, _, hw⟩ := DataW.trod_int ht h
 refine ⟨n, hw, rfl, fun j c v hc hv => ?_⟩
 match j with
 | 0 => simp [Codec.int] at hc hv; subst hc; subst hv; exact .lit rfl
 | j + 1 => simp [Codec.int] at hc
theorem reads_byte (ht : P.underlying t = some (.int .u8)) : ReadsAs V P t (Codec.byte) (fun _ => True) := by
 intro H enc W spare held fuel cs x h hwt
 obtain ⟨n, rfl, _, hw⟩ := DataW.trod_int ht h
 simp only [Lit.wf, Bool.and_eq_true, decide_eq_true_eq] at hw
 refine ⟨UInt8.ofNat n.toNat, trivial, rfl, fun j c v hc hv => ?_⟩
 match j with
 | 0 =>
  simp [Codec.byte] at hc hv
  subst hc; subst hv
  have h1 : (0 : Int) ≤ n := by have := hw.1; simpa [IntKind.min, IntKind.signed] using this
  have h2 : n ≤ 255 := by have := hw.2; simpa [IntKind.max, IntKind.signed, IntKind.bits] using this
  have e : max n 0 % 256 = n := by omega
  rw [e]
  exact .lit rfl
 | j + 1 => simp [Codec.byte] at hc
theorem trod_bool {H : Type} {enc : TypeId × Value → H} {w : World} {base : Nat} {spare : Nat → Bool} {held : Bool} {fuel : Nat} {cs : List Value} {x : DataW H × List MemPlace} (ht : P.underlying t = some .bool) (h : DataW.trod enc P w base spare held fuel t cs = some x) : ∃ b, cs = [.bool b] := by
 cases fuel with
 | zero => simp [DataW.trod] at h
 | succ n =>
  unfold DataW.trod at h
  rw [ht] at h
  split at h <;> simp_all
theorem reads_bool (ht : P.underlying t = some .bool) : ReadsAs V P t (Codec.bool) (fun _ => True) := by
 intro H enc W spare held fuel cs x h hwt
 obtain ⟨b, rfl⟩ := trod_bool ht h
 refine ⟨b, trivial, rfl, fun j c v hc hv => ?_⟩
 match j with
 | 0 => simp [Codec.bool] at hc hv; subst hc; subst hv; exact .lit rfl
 | j + 1 => simp [Codec.bool] at hc
theorem reads_str (ht : P.underlying t = some .string) : ReadsAs V P t (Codec.str) (fun l => l.length ≤ reachBytes) := by
 intro H enc W spare held fuel cs x h hwt
 obtain ⟨s, rfl, rfl, hl⟩ := DataW.trod_string ht h
 refine ⟨s.data.toList, hwt _ (by simp [DataW.weights]), rfl, fun j c v hc hv => ?_⟩
 match j with
 | 0 => simp [Codec.str] at hc hv; subst hc; subst hv; exact .str _
 | j + 1 => simp [Codec.str] at hc
theorem list_of {α : Type} (Q : Nat → α → Prop) : ∀ n, (∀ i, i < n → ∃ x, Q i x) → ∃ l : List α, l.length = n ∧ ∀ (i : Nat) x, l[i]? = some x → Q i x
 | 0, _ => ⟨[], rfl, fun i x h => by simp at h⟩
 | n + 1, h => by
  obtain ⟨l, h1, h2⟩ := list_of Q n (fun i hi => h i (by omega))
  obtain ⟨x, hx⟩ := h n (by omega)
  refine ⟨l ++ [x], by simp [h1], fun i y hy => ?_⟩
  by_cases hi : i < l.length
  ·rw [List.getElem?_append_left hi] at hy; exact h2 i y hy
  ·rw [List.getElem?_append_right (by omega)] at hy
   have : i = n := by
    have := (List.getElem?_eq_some_iff.1 hy).1
    simp at this; omega
   subst this
   rw [h1] at hy
   simp at hy
   subst hy
   exact hx
theorem mem_weightsAll {H : Type} {e : TypeId} : ∀ (ds : List (DataW H)) (d : DataW H) (n : Nat), d ∈ ds → n ∈ d.weights P e → n ∈ DataW.weightsAll P e ds
 | [], d, n, h, _ => by cases h
 | x :: ds, d, n, h, hn => by
  unfold DataW.weightsAll
  rcases List.mem_cons.1 h with rfl | h
  ·exact List.mem_append_left _ hn
  ·exact List.mem_append_right _ (mem_weightsAll ds d n h hn)
theorem mem_weightsEach {H : Type} : ∀ (ts : List TypeId) (ds : List (DataW H)) (i : Nat) (t : TypeId) (d : DataW H) (n : Nat), ts[i]? = some t → ds[i]? = some d → n ∈ d.weights P t → n ∈ DataW.weightsEach P ts ds
 | [], ds, i, t, d, n, h, _, _ => by simp at h
 | u :: ts, [], i, t, d, n, _, h, _ => by simp at h
 | u :: ts, x :: ds, i, t, d, n, ht, hd, hn => by
  unfold DataW.weightsEach
  cases i with
  | zero => simp at ht hd; subst ht; subst hd; exact List.mem_append_left _ hn
  | succ i => exact List.mem_append_right _ (mem_weightsEach ts ds i t d n (by simpa using ht) (by simpa using hd) hn)
theorem reads_sl [DecidableEq Tag] {e : TypeId} {tg : Tag} {c : Codec T (T tg)} {G : T tg → Prop} (ht : P.underlying t = some (.slice e)) (hk : ∀ x, V.E.k tg x = c.k x) (hs : V.E.sz tg = P.cellsOf e) (hpos : 0 < P.cellsOf e)
  (he : ReadsAs V P e c G) : ReadsAs V P t (Codec.sl tg) (fun l => l.length * P.bytesOf e ≤ reachBytes ∧ l.length ≤ 9223372036854775807 ∧ ∀ x ∈ l, G x) := by
 intro H enc W spare held fuel cs x h hwt
 rcases DataW.trod_slice ht h with ⟨rfl, _⟩ | ⟨a, len, cap, elems, rest, n, _, rfl, hx, _, hl, hm, hlen, hel, _, _⟩
 ·refine ⟨[], by simp, rfl, fun j c v hc hv => ?_⟩
  match j with
  | 0 => simp [Codec.sl] at hc hv; subst hc; subst hv; exact .ronil _ _ _
  | j + 1 => simp [Codec.sl] at hc
 ·have key : ∀ i, i < len → ∃ y, G y ∧ ∀ (j : Nat) k, (c.k y)[j]? = some k → ∃ v, W.cell? (a.add (i * P.cellsOf e + j)) = some v ∧ PR V.E W (fun b => b < W.heap.size) k v := by
   intro i hi
   have h1 := hel i hi
   rw [List.getElem?_eq_getElem (by omega)] at h1
   rw [Option.bind_eq_some_iff] at h1
   obtain ⟨cs', h2, h3⟩ := h1
   obtain ⟨y, g1, g2, g3⟩ := he H enc W spare held n cs' _ h3 (fun q hq => hwt q (by
    subst hx
    simp only [DataW.weights, ht]
    exact List.mem_cons_of_mem _ (List.mem_append_left _ (mem_weightsAll _ _ _ (List.mem_map.2 ⟨_, List.getElem_mem (by omega), rfl⟩) hq))))
   refine ⟨y, g1, fun j k hk' => ?_⟩
   obtain ⟨_, c2, c3⟩ := World.cells?_some h2
   have hj : j < cs'.length := by rw [g2, ← c.klen y]; exact (List.getElem?_eq_some_iff.1 hk').1
   refine ⟨cs'[j], ?_, g3 j k _ hk' (List.getElem?_eq_getElem hj)⟩
   have := c3 j (by omega)
   rw [← List.getElem?_eq_getElem hj, ← this]
   rw [Go.Addr.add_add]
  obtain ⟨l, h1, h2⟩ := list_of (fun i y => G y ∧ ∀ (j : Nat) k, (c.k y)[j]? = some k → ∃ v, W.cell? (a.add (i * P.cellsOf e + j)) = some v ∧ PR V.E W (fun b => b < W.heap.size) k v) len key
  refine ⟨l, ⟨?_, by rw [h1]; exact Nat.le_trans hl hm, fun x hx => ?_⟩, rfl, fun j k v hk' hv => ?_⟩
  ·refine Nat.le_trans ?_ (hwt ((elems.length + rest.length) * P.bytesOf e) (by subst hx; simp only [DataW.weights, ht, List.length_map]; exact List.mem_cons_self))
   exact Nat.mul_le_mul_right _ (by omega)
  ·obtain ⟨i, hi, rfl⟩ := List.mem_iff_getElem.1 hx
   exact (h2 i _ (List.getElem?_eq_getElem hi)).1
  ·cases j with
   | succ j => cases hk'
   | zero =>
    replace hk' : some (CV.ro tg l) = some k := hk'
    simp at hk' hv
    subst hk'; subst hv
    by_cases hnil : l = []
    ·subst hnil
     simp at h1
     subst h1
     exact .ronil _ _ _
    ·rw [← h1]
     have hl0 : 0 < l.length := List.length_pos_iff.2 hnil
     have hb : a.block < W.heap.size := by
      have hg := h2 0 l[0] (List.getElem?_eq_getElem hl0)
      have hp : 0 < (c.k l[0]).length := by rw [← hk, V.E.klen, hs]; exact hpos
      obtain ⟨v, hv, _⟩ := hg.2 0 _ (List.getElem?_eq_getElem hp)
      have := World.cells?_block (n := 1) (base := 0) (cellsq hv) (by omega)
      have e : (a.add (0 * P.cellsOf e + 0)).block = a.block := by unfold Addr.add; split <;> rfl
      rw [e] at this
      exact this
     refine .ro tg l a cap (fun i j => (W.cell? (a.add (i * V.E.sz tg + j))).getD undef) hb (by rw [h1]; exact hl) (fun i x j k hx hc => ?_) fun i x j k hx hc => ?_
     ·rw [hk] at hc
      obtain ⟨v, hv, _⟩ := (h2 i x hx).2 j k hc
      rw [hs, hv]
      rfl
     ·rw [hk] at hc
      obtain ⟨v, hv, hp⟩ := (h2 i x hx).2 j k hc
      simp only [hs, hv]
      exact hp
where cellsq {W : World} {a : Addr} {v : Value} (h : W.cell? a = some v) : W.cells? 0 a 1 = some [v] := cells?_one (Nat.zero_le _) h
def ReadsF (V : Env T) (P : Program) (fs : List Field) (off : Nat) {α : Type} (c : Codec T α) (G : α → Prop) : Prop :=
 ∀ (H : Type) (enc : TypeId × Value → H) (W : World) (spare : Nat → Bool) (held : Bool) (n : Nat) (cs : List Value),
  (∀ (i : Nat) (f : Field), fs[i]? = some f → ∃ y, DataW.trod enc P W 0 spare held n f.type ((cs.drop f.offset).take (P.cellsOf f.type)) = some y ∧ ∀ q ∈ y.1.weights P f.type, q ≤ reachBytes) →
  ∃ y, G y ∧ ∀ (j : Nat) k v, (c.k y)[j]? = some k → cs[off + j]? = some v → PR V.E W (fun b => b < W.heap.size) k v
theorem readsF_nil {off : Nat} : ReadsF V P [] off (Codec.unit (T := T)) (fun _ => True) :=
 fun H enc W spare held n cs h => ⟨(), trivial, fun j k v hk => by cases hk⟩
theorem readsF_one {f : Field} {off : Nat} {α : Type} {c : Codec T α} {G : α → Prop} (ho : f.offset = off) (h : ReadsAs V P f.type c G) : ReadsF V P [f] off c G := by
 intro H enc W spare held n cs hf
 obtain ⟨x, hx, hwt⟩ := hf 0 f rfl
 obtain ⟨y, g1, g2, g3⟩ := h H enc W spare held n _ _ hx hwt
 refine ⟨y, g1, fun j k v hk hv => g3 j k v hk ?_⟩
 have hj : j < c.sz := by rw [← c.klen y]; exact (List.getElem?_eq_some_iff.1 hk).1
 rw [ho] at g2 ⊢
 simp only [List.length_take, List.length_drop] at g2
 rw [List.getElem?_take, if_pos (by omega), List.getElem?_drop]
 exact hv
theorem readsF_cons {f : Field} {fs : List Field} {off : Nat} {α β : Type} {c : Codec T α} {d : Codec T β} {G : α → Prop} {G' : β → Prop} (ho : f.offset = off) (h : ReadsAs V P f.type c G) (hr : ReadsF V P fs (off + c.sz) d G') :
  ReadsF V P (f :: fs) off (Codec.pair c d) (fun y => G y.1 ∧ G' y.2) := by
 intro H enc W spare held n cs hf
 obtain ⟨y, g1, g2⟩ := readsF_one ho h H enc W spare held n cs (fun i f' hi => by
  cases i with
  | zero => cases hi; exact hf 0 f rfl
  | succ i => cases hi)
 obtain ⟨z, h1, h2⟩ := hr H enc W spare held n cs (fun i f' hi => hf (i + 1) f' hi)
 refine ⟨(y, z), ⟨g1, h1⟩, fun j k v hk hv => ?_⟩
 replace hk : (c.k y ++ d.k z)[j]? = some k := hk
 by_cases hj : j < (c.k y).length
 ·rw [List.getElem?_append_left hj] at hk
  exact g2 j k v hk hv
 ·rw [List.getElem?_append_right (by omega)] at hk
  refine h2 _ k v hk ?_
  rw [← hv]
  congr 1
  rw [c.klen] at hj ⊢
  omega
theorem reads_struct {fs : Array Field} {α β : Type} {c : Codec T α} {f : β → α} {g : α → β} {hfg : ∀ x, f (g x) = x} {G : α → Prop} (ht : P.underlying t = some (.struct fs)) (hsz : P.cellsOf t = c.sz)
  (h : ReadsF V P fs.toList 0 c G) : ReadsAs V P t (Codec.iso c f g hfg) (fun y => G (f y)) := by
 intro H enc W spare held fuel cs x hx hwt
 obtain ⟨xs, n, _, rfl, hl, hlen, hf⟩ := DataW.trod_struct ht hx
 obtain ⟨y, g1, g2⟩ := h H enc W spare held n cs (fun i fl hi => by
  have hi' : fs[i]? = some fl := by rw [← Array.getElem?_toList]; exact hi
  have h1 := hf i fl hi'
  have : i < xs.length := by rw [hlen]; exact (Array.getElem?_eq_some_iff.1 hi').1
  refine ⟨xs[i], by rw [h1]; exact List.getElem?_eq_getElem this, fun q hq => hwt q ?_⟩
  simp only [DataW.weights, ht]
  exact mem_weightsEach _ _ i fl.type _ q (by rw [List.getElem?_map, hi]; rfl) (by rw [List.getElem?_map, List.getElem?_eq_getElem this]; rfl) hq)
 refine ⟨g y, by show G (f (g y)); rw [hfg]; exact g1, hl.trans hsz, fun j k v hk hv => g2 j k v ?_ (by rw [Nat.zero_add]; exact hv)⟩
 replace hk : (c.k (f (g y)))[j]? = some k := hk
 rw [hfg] at hk
 exact hk
theorem ReadsAs.one {α : Type} {c : Codec T α} {G : α → Prop} (h : ReadsAs V P t c G) {W : World} {v : Value} {H : Type} {enc : TypeId × Value → H} {spare : Nat → Bool} {held : Bool} {d : DataW H} {ps : List MemPlace} (hr : DataW.Trod enc P W 0 spare held t v d ps) (hwt : ∀ n ∈ d.weights P t, n ≤ reachBytes)
  (hv : v.oneCell' = true) : ∃ y, G y ∧ ∀ k, c.k y = [k] → RA V.E W (fun b => b < W.heap.size) (fun _ => none) (.cv k) v := by
 obtain ⟨fuel, hr⟩ := hr
 obtain ⟨y, g1, g2, g3⟩ := h H enc W spare held fuel _ _ hr hwt
 have hc : v.cells.toList = [v] := by cases v <;> first | rfl | cases hv
 rw [hc] at g3
 exact ⟨y, g1, fun k hk => .cv (.pure (g3 0 k v (by rw [hk]; rfl) rfl))⟩
theorem ReadsAs.agg {α : Type} {c : Codec T α} {G : α → Prop} (h : ReadsAs V P t c G) {W : World} {us : Array Value} {H : Type} {enc : TypeId × Value → H} {spare : Nat → Bool} {held : Bool} {d : DataW H} {ps : List MemPlace} (hr : DataW.Trod enc P W 0 spare held t (.agg us) d ps) (hwt : ∀ n ∈ d.weights P t, n ≤ reachBytes) :
  ∃ y, G y ∧ RA V.E W (fun b => b < W.heap.size) (fun _ => none) (.agg (c.k y)) (.agg us) := by
 obtain ⟨fuel, hr⟩ := hr
 obtain ⟨y, g1, g2, g3⟩ := h H enc W spare held fuel _ _ hr hwt
 refine ⟨y, g1, .agg (by rw [c.klen]; simpa [Value.cells] using g2) fun i k v hk hv => .pure (g3 i k v hk (by simpa [Value.cells] using hv))⟩
theorem post_of_below {H : Type} {enc : TypeId × Value → H} {f : Func} {s : ChangeSpec} {apart fresh handsOn again : Bool} {W W' : World} {args : Array Value} {v : Value} {ds gs : List (DataW H)} {before pa pv : List MemPlace}
  (hW : DataW.Whole enc P f.params.toList s.vars apart W args.toList ds gs before) (hb : Below W.heap.size W W')
  (hres : ∀ (b : Nat) (sp : Nat → Bool) (hd : Bool), DataW.TrodAll enc P W' b sp hd f.resultTypes.toList (v.resultList f.resultTypes.size) (s.fn H (ds ++ gs)).results [])
  (hargs : ∀ sp : Nat → Bool, (∀ p ∈ before, sp p.block = true) → DataW.TrodAll enc P W' 0 sp true f.params.toList args.toList (s.fn H (ds ++ gs)).args pa)
  (hvars : ∀ sp : Nat → Bool, (∀ p ∈ before, sp p.block = true) → DataW.TrodVars enc P W' sp s.vars (s.fn H (ds ++ gs)).vars pv)
  (hps : before = pa ++ pv)
  (hok : ∀ (j : Nat) (t : TypeId) (r : Value), f.resultTypes[j]? = some t → (v.resultList f.resultTypes.size)[j]? = some r → Value.okWide P W' .any 0 t r) :
  s.post enc P f apart fresh handsOn again W args v W' := by
 have hold : ∀ p ∈ before, (fun b => decide (b < W.heap.size)) p.block = true := fun p hp => by simpa using hW.lt p hp
 refine ⟨ds, gs, before, [], pa, pv, hW, hres _ _ _, hargs _ hold, hvars _ hold, hb.frame _, fun _ => ?_⟩
 have hlt : ∀ p ∈ before, p.block < W.heap.size := fun p hp => by simpa using hW.lt p hp
 obtain ⟨_, _, _, _, _, hz, hn⟩ := hW
 refine ⟨hok, _, _, ([] ++ pa) ++ pv, ⟨[] ++ pa, pv, trodAll_append (hargs _ (fun _ _ => rfl)) (hres _ _ _), hvars _ (fun _ _ => rfl), rfl, ?_, ?_⟩, ?_⟩
 ·intro b off hp
  have hp' : MemPlace.cell b off ∈ before := by rw [hps]; simpa using hp
  rw [hb.frozen (p := ⟨b, off, none⟩) (hlt _ hp')]
  exact hz b off hp'
 ·intro ha
  have := hn ha
  rw [hps] at this
  simpa using this
 ·intro p hp _
  rw [hps]
  simpa using hp
def isOneD : TypeDesc → Bool
 | .bool | .string | .int _ | .slice _ => true
 | _ => false
theorem one_of_okWide {W : World} {r : Reach} {base : Nat} {v : Value} {d : TypeDesc} (hd : P.underlying t = some d) (h1 : isOneD d = true) (h : Value.okWide P W r base t v) : v.oneCell' = true := by
 unfold Value.okWide at h
 rw [hd] at h
 cases d <;> first | cases h1; done | (unfold Cell.okWide Cell.ok at h; rw [hd] at h; cases v <;> first | rfl | exact h.elim)
theorem agg_of_okWide {W : World} {r : Reach} {base : Nat} {v : Value} {fs : Array Field} (hd : P.underlying t = some (.struct fs)) (h : Value.okWide P W r base t v) : ∃ us, v = .agg us := by
 unfold Value.okWide at h
 rw [hd] at h
 obtain ⟨us, h1, _⟩ := h
 exact ⟨us, h1⟩
theorem ReadsAs.one' {α : Type} {c : Codec T α} {G : α → Prop} (h : ReadsAs V P t c G) {W : World} {v : Value} {H : Type} {enc : TypeId × Value → H} {spare : Nat → Bool} {held : Bool} {d : DataW H} {ps : List MemPlace} {td : TypeDesc} {r : Reach} {base : Nat}
  (hd : P.underlying t = some td) (h1 : isOneD td = true) (hok : Value.okWide P W r base t v) (hr : DataW.Trod enc P W 0 spare held t v d ps) (hwt : ∀ n ∈ d.weights P t, n ≤ reachBytes) :
  ∃ y, G y ∧ ∀ k, c.k y = [k] → RA V.E W (fun b => b < W.heap.size) (fun _ => none) (.cv k) v := h.one hr hwt (one_of_okWide hd h1 hok)
theorem ReadsAs.agg' {α : Type} {c : Codec T α} {G : α → Prop} (h : ReadsAs V P t c G) {W : World} {v : Value} {H : Type} {enc : TypeId × Value → H} {spare : Nat → Bool} {held : Bool} {d : DataW H} {ps : List MemPlace} {fs : Array Field} {r : Reach} {base : Nat}
  (hd : P.underlying t = some (.struct fs)) (hok : Value.okWide P W r base t v) (hr : DataW.Trod enc P W 0 spare held t v d ps) (hwt : ∀ n ∈ d.weights P t, n ≤ reachBytes) :
  ∃ y, G y ∧ RA V.E W (fun b => b < W.heap.size) (fun _ => none) (.agg (c.k y)) v := by
 obtain ⟨us, rfl⟩ := agg_of_okWide hd hok
 exact h.agg hr hwt
theorem weights_cons {H : Type} {t : TypeId} {ts : List TypeId} {d : DataW H} {ds : List (DataW H)} (h : (DataW.weightsEach P (t :: ts) (d :: ds)).all (· ≤ reachBytes) = true) :
  (∀ n ∈ d.weights P t, n ≤ reachBytes) ∧ (DataW.weightsEach P ts ds).all (· ≤ reachBytes) = true := by
 unfold DataW.weightsEach at h
 rw [List.all_append, Bool.and_eq_true] at h
 exact ⟨fun n hn => by have := List.all_eq_true.1 h.1 n hn; simpa using this, h.2⟩
def RAs (V : Env T) (W : World) (xs : List (AV T)) (vs : List Value) : Prop := ∀ (i : Nat) x v, xs[i]? = some x → vs[i]? = some v → RA V.E W (fun b => b < W.heap.size) (fun _ => none) x v
theorem ras_nil {W : World} {vs : List Value} : RAs V W [] vs := fun i x v h => by simp at h
theorem ras_cons {W : World} {x : AV T} {xs : List (AV T)} {v : Value} {vs : List Value} (h : RA V.E W (fun b => b < W.heap.size) (fun _ => none) x v) (hs : RAs V W xs vs) : RAs V W (x :: xs) (v :: vs) := fun i y u hy hu => by
 cases i with
 | zero => simp at hy hu; subst hy; subst hu; exact h
 | succ i => exact hs i y u (by simpa using hy) (by simpa using hu)
theorem trodAll_stays {H : Type} {enc : TypeId × Value → H} (hl : laidOutB P = true) {W W' : World} (hb : Below W.heap.size W W') {sp : Nat → Bool} : ∀ (ts : List TypeId), ts.all (fun t => P.readableRec t && decide (t < P.types.size)) = true →
  ∀ (vs : List Value) (ds : List (DataW H)) (p : List MemPlace), DataW.TrodAll enc P W 0 (fun _ => true) true ts vs ds p → (∀ x ∈ p, x.block < W.heap.size) → (∀ x ∈ p, sp x.block = true) → DataW.TrodAll enc P W' 0 sp true ts vs ds p
 | [], _, vs, ds, p, h, _, _ => by
  obtain ⟨rfl, rfl, rfl⟩ := trodAll_nil h
  rfl
 | t :: ts, hc, vs, ds, p, h, hlt, hsp => by
  simp only [List.all_cons, Bool.and_eq_true, decide_eq_true_eq] at hc
  obtain ⟨v, vs', d, ds', p1, p2, rfl, rfl, rfl, h1, h2⟩ := trodAll_cons h
  refine ⟨p1, p2, WideElems.Trod_stays hl hc.1.1 hc.1.2 h1 (fun x hx => hb.same (hlt x (by simp [hx]))) (fun x hx => hsp x (by simp [hx])), trodAll_stays hl hb ts hc.2 _ _ _ h2 (fun x hx => hlt x (by simp [hx])) (fun x hx => hsp x (by simp [hx])), rfl⟩
theorem post_true {H : Type} {enc : TypeId × Value → H} {f : Func} {s : ChangeSpec} {apart fresh handsOn again : Bool} {W W' : World} {args : Array Value} {ds : List (DataW H)} {before : List MemPlace} {tb : TypeId}
  (hW : DataW.Whole enc P f.params.toList s.vars apart W args.toList ds [] before) (hb : Below W.heap.size W W') (hvars : s.vars = []) (hl : laidOutB P = true)
  (hp : f.params.toList.all (fun t => P.readableRec t && decide (t < P.types.size)) = true) (hr : f.resultTypes = #[tb]) (htb : P.underlying tb = some .bool)
  (hs : s.fn H (ds ++ []) = { results := [.lit (.bool true)], args := ds }) :
  s.post enc P f apart fresh handsOn again W args (.bool true) W' := by
 have hlt : ∀ p ∈ before, p.block < W.heap.size := fun p hp => by simpa using hW.lt p hp
 have hW2 := hW
 obtain ⟨p, q, hA, hV, rfl, _, _⟩ := hW2
 rw [hvars] at hV
 obtain ⟨_, rfl⟩ := trodVars_none hV
 refine post_of_below (pa := p) (pv := []) hW hb (fun b sp hd => ?_) (fun sp hsp => ?_) (fun sp hsp => ?_) rfl ?_
 ·rw [hr, hs]
  exact ⟨[], [], ⟨1, by show DataW.trod enc P W' b sp hd 1 tb [.bool true] = _; unfold DataW.trod; rw [htb]⟩, rfl, rfl⟩
 ·rw [hs]
  exact trodAll_stays hl hb _ hp _ _ _ hA (fun x hx => hlt x (by simp [hx])) (fun x hx => hsp x (by simp [hx]))
 ·rw [hs, hvars]; rfl
 ·exact Go.RowKit.ok_one hr rfl (by unfold Value.okWide; rw [htb]; unfold Cell.okWide Cell.ok; rw [htb]; trivial)
end
end Go.Proofs.YtahpbjjfpbmaiaaDoor.Eng
namespace Go.Proofs.YtahpbjjfpbmaiaaDoor.Eng
theorem wrap64 (n : Int) : IntKind.i64.wrap n = (n + 9223372036854775808) % 18446744073709551616 - 9223372036854775808 := by
 simp [IntKind.wrap, IntKind.bits, IntKind.signed]
 split <;> omega
theorem wrap_small {x : Int} (h0 : -9223372036854775808 ≤ x) (h1 : x ≤ 9223372036854775807) : IntKind.i64.wrap x = x := by
 rw [wrap64]; omega
theorem wrap_succ {n : Nat} (h : n < 9223372036854775807) : IntKind.i64.wrap ((n : Int) + 1) = ((n + 1 : Nat) : Int) := by
 rw [wrap_small (by omega) (by omega)]; omega
theorem drop_step {α : Type} {xs : List α} {n : Nat} (h : n < xs.length) (d : α) : xs.drop n = xs.getD n d :: xs.drop (n + 1) := by
 rw [List.drop_eq_getElem_cons h]
 simp [List.getD_eq_getElem?_getD, h]
theorem drop_end {α : Type} {xs : List α} {n : Nat} (h : ¬ n < xs.length) : xs.drop n = [] := List.drop_eq_nil_of_le (by omega)
theorem getD_mem {α : Type} {xs : List α} {n : Nat} (h : n < xs.length) (d : α) : xs.getD n d ∈ xs := by
 simp [List.getD_eq_getElem?_getD, h]
section
variable {Tag : Type} {T : Tag → Type}
abbrev CV.I (n : Int) : CV T := .lit (.int .i64 n)
abbrev CV.B (b : Bool) : CV T := .lit (.bool b)
abbrev CV.N : CV T := .lit (.slice none 0 0)
abbrev CV.P (id : Nat) : CV T := .ptr id 0
abbrev AV.I (n : Int) : AV T := .cv (.lit (.int .i64 n))
abbrev AV.B (b : Bool) : AV T := .cv (.lit (.bool b))
abbrev AV.N : AV T := .cv (.lit (.slice none 0 0))
abbrev AV.P (id : Nat) : AV T := .cv (.ptr id 0)
end
section
variable {Tag : Type} {T : Tag → Type} {V : Env T} {P : Program} {n m : Nat} {Γ : Ent} {S : St T} {Q : Exit → St T → Prop}
def St.ts (S : St T) : List Nat := S.tmps.map (·.1)
def St.ids (S : St T) : List Nat := S.heap.map (·.1)
theorem ar (L : V.E.Law V.isB V.toB) {id : Nat} {ops : Array Oper} (base : Nat) (decs : List (Nat × Bool)) (oras : List (Nat × AV T)) (effs : List (Nat × Eff T)) {cs : List Prop} {S' : St T} (hcs : All cs) (hQ : Q .normal S')
  (h : (evList V P n m ops base decs oras effs 0 ops.toList S).map (fun p => (p.1, (p.2.keep S'.ts S'.ids).co S')) = some (cs, S') := by kernel_rfl) : AWp V P n m Γ (.region id ops false) Q S := awp_region L base decs oras effs S'.ts S'.ids h hcs hQ
theorem sr (L : V.E.Law V.isB V.toB) {id : Nat} {ops : Array Oper} {y : Code} (base : Nat) (decs : List (Nat × Bool)) (oras : List (Nat × AV T)) (effs : List (Nat × Eff T)) {cs : List Prop} {S' : St T} (hcs : All cs) (hQ : AWp V P n m Γ y Q S')
  (h : (evList V P n m ops base decs oras effs 0 ops.toList S).map (fun p => (p.1, (p.2.keep S'.ts S'.ids).co S')) = some (cs, S') := by kernel_rfl) : AWp V P n m Γ (.seq (.region id ops false) y) Q S := awp_seq (awp_region L base decs oras effs S'.ts S'.ids h hcs hQ)
theorem ar0 (L : V.E.Law V.isB V.toB) {id : Nat} {ops : Array Oper} (base : Nat) (decs : List (Nat × Bool)) (oras : List (Nat × AV T)) (effs : List (Nat × Eff T)) {S' : St T} (hQ : Q .normal S')
  (h : (evList V P n m ops base decs oras effs 0 ops.toList S).map (fun p => (p.1, (p.2.keep S'.ts S'.ids).co S')) = some ([], S') := by kernel_rfl) : AWp V P n m Γ (.region id ops false) Q S := awp_region L base decs oras effs S'.ts S'.ids h trivial hQ
theorem sr0 (L : V.E.Law V.isB V.toB) {id : Nat} {ops : Array Oper} {y : Code} (base : Nat) (decs : List (Nat × Bool)) (oras : List (Nat × AV T)) (effs : List (Nat × Eff T)) {S' : St T} (hQ : AWp V P n m Γ y Q S')
  (h : (evList V P n m ops base decs oras effs 0 ops.toList S).map (fun p => (p.1, (p.2.keep S'.ts S'.ids).co S')) = some ([], S') := by kernel_rfl) : AWp V P n m Γ (.seq (.region id ops false) y) Q S := awp_seq (awp_region L base decs oras effs S'.ts S'.ids h trivial hQ)
theorem ad (L : V.E.Law V.isB V.toB) (hm : P.follows .mixedOrders = true) {id : Nat} {ops : Array Oper} (base : Nat) (decs : List (Nat × Bool)) (oras : List (Nat × AV T)) (effs : List (Nat × Eff T)) (wids : List Nat) (d : Nat) {cs : List Prop} {S' : St T} (hcs : All cs) (hQ : Q .normal S')
  (h : (evDraw V P n m ops base decs oras effs wids d S).map (fun p => (p.1, (p.2.keep S'.ts S'.ids).co S')) = some (cs, S') := by kernel_rfl) : AWp V P n m Γ (.region id ops true) Q S := awp_draw L hm base decs oras effs wids d S'.ts S'.ids h hcs hQ
theorem sd (L : V.E.Law V.isB V.toB) (hm : P.follows .mixedOrders = true) {id : Nat} {ops : Array Oper} {y : Code} (base : Nat) (decs : List (Nat × Bool)) (oras : List (Nat × AV T)) (effs : List (Nat × Eff T)) (wids : List Nat) (d : Nat) {cs : List Prop} {S' : St T} (hcs : All cs) (hQ : AWp V P n m Γ y Q S')
  (h : (evDraw V P n m ops base decs oras effs wids d S).map (fun p => (p.1, (p.2.keep S'.ts S'.ids).co S')) = some (cs, S') := by kernel_rfl) : AWp V P n m Γ (.seq (.region id ops true) y) Q S := awp_seq (awp_draw L hm base decs oras effs wids d S'.ts S'.ids h hcs hQ)
theorem aA (L : V.E.Law V.isB V.toB) (hm : P.follows .mixedOrders = true) {id : Nat} {ops : Array Oper} (base : Nat) (decs : List (Nat × Bool)) (oras : List (Nat × AV T)) (effs : List (Nat × Eff T)) (wids : List Nat) (d k : Nat) {cs : List Prop} {S' : St T} (hcs : All cs) (hQ : Q .normal S')
  (h : (evDrawA V P n m ops base decs oras effs wids d S).map (fun p => (p.1, p.2.map fun F => (F.keep S'.ts S'.ids).co S')) = some (cs, List.replicate k S') := by kernel_rfl) : AWp V P n m Γ (.region id ops true) Q S := awp_drawA L hm base decs oras effs wids d k S'.ts S'.ids h hcs hQ
theorem kp {c : Code} {S' : St T} (h : AWp V P n m Γ c Q S') (hk : (S.keep S'.ts S'.ids).co S' = S' := by kernel_rfl) : AWp V P n m Γ c Q S := awp_keep hk h
theorem sk {S' : St T} (h : Q .normal S') (hk : (S.keep S'.ts S'.ids).co S' = S' := by kernel_rfl) : AWp V P n m Γ .skip Q S := awp_skip S'.ts S'.ids hk h
theorem ex {S' : St T} {id : Nat} (h : Q (.exit id) S') (hk : (S.keep S'.ts S'.ids).co S' = S' := by kernel_rfl) : AWp V P n m Γ (.exit id) Q S := awp_exit S'.ts S'.ids hk h
theorem tt {c : Operand} {x y : Code} {b : Bool} (hb : b = true) (h : AWp V P n m Γ x Q S) (hc : S.get c = some (.cv (.lit (.bool b))) := by kernel_rfl) : AWp V P n m Γ (.cond c x y) Q S := awp_true hc hb h
theorem ff {c : Operand} {x y : Code} {b : Bool} (hb : b = false) (h : AWp V P n m Γ y Q S) (hc : S.get c = some (.cv (.lit (.bool b))) := by kernel_rfl) : AWp V P n m Γ (.cond c x y) Q S := awp_false hc hb h
theorem er {fn : Func} {r : AV T} {H' : List (Nat × Blk T)} (x : AV T) (h1 : evRes V.E P S fn = some x := by kernel_rfl) (h2 : coA x r = r := by kernel_rfl) (h3 : (S.keep [] (H'.map (·.1))).co ⟨[], H'⟩ = ⟨[], H'⟩ := by kernel_rfl) : EndsE P V fn r H' .ret S := ⟨.inr rfl, x, h1, h2, h3⟩
theorem en {fn : Func} {r : AV T} {H' : List (Nat × Blk T)} (x : AV T) (h1 : evRes V.E P S fn = some x := by kernel_rfl) (h2 : coA x r = r := by kernel_rfl) (h3 : (S.keep [] (H'.map (·.1))).co ⟨[], H'⟩ = ⟨[], H'⟩ := by kernel_rfl) : EndsE P V fn r H' .normal S := ⟨.inl rfl, x, h1, h2, h3⟩
theorem eo {f : FuncId} {fn : Func} {c : Code} {args : List (AV T)} {H : List (Nat × Blk T)} {fx : List Nat} {r : AV T} {H' : List (Nat × Blk T)} (h : ∀ Γ : Ent, AWp V P n m Γ c (EndsE P V fn r H') ⟨args0 0 args, H⟩) (hf : P.funcs[f]? = some fn := by kernel_rfl) (hb : fn.body = some c := by kernel_rfl) (hcal : callable P f = true := by kernel_rfl) (hn : fn.ntmps = n := by rfl) (hle : Nat.ble args.length n = true := by kernel_rfl)
  (hids : (H.all (fun p => Nat.blt p.1 100) && fx.all (fun i => Nat.blt i m)) = true := by kernel_rfl) : ECall V P f args H fx r H' := ecall_of hf hb hcal hn hle hids h
theorem Turns.kp {S' : St T} (hk : (S.keep S'.ts S'.ids).co S' = S' := by kernel_rfl) : Turns V n m Γ S S' := Turns.keep S'.ts S'.ids hk
theorem Turns.rn (σ : List (Nat × Nat)) {S' : St T} (hok : renOk m σ S = true := by kernel_rfl) (hk : S.ren σ = S' := by kernel_rfl) : Turns V n m Γ S S' := Turns.ren σ hok hk
end
def insI (x : Int) : List Int → List Int
 | [] => [x]
 | y :: l => if x ≤ y then x :: y :: l else y :: insI x l
def isrt : List Int → List Int
 | [] => []
 | x :: l => insI x (isrt l)
theorem insI_perm (x : Int) : ∀ l, (insI x l).Perm (x :: l)
 | [] => List.Perm.refl _
 | y :: l => by
  unfold insI
  split
  ·exact List.Perm.refl _
  ·exact (List.Perm.cons y (insI_perm x l)).trans (List.Perm.swap x y l)
theorem isrt_perm : ∀ l, (isrt l).Perm l
 | [] => List.Perm.refl _
 | x :: l => (insI_perm x (isrt l)).trans (List.Perm.cons x (isrt_perm l))
theorem insI_sorted (x : Int) : ∀ l, l.Pairwise (fun a b => a ≤ b) → (insI x l).Pairwise (fun a b => a ≤ b)
 | [], _ => by simp [insI]
 | y :: l, h => by
  rw [List.pairwise_cons] at h
  unfold insI
  split
  ·rename_i hxy
   rw [List.pairwise_cons]
   refine ⟨fun z hz => ?_, List.pairwise_cons.2 h⟩
   rcases List.mem_cons.1 hz with rfl | hz
   ·exact hxy
   ·have := h.1 z hz; omega
  ·rename_i hxy
   rw [List.pairwise_cons]
   refine ⟨fun z hz => ?_, insI_sorted x l h.2⟩
   rcases List.mem_cons.1 ((insI_perm x l).mem_iff.1 hz) with rfl | hz
   ·omega
   ·exact h.1 z hz
theorem isrt_sorted : ∀ l, (isrt l).Pairwise (fun a b => a ≤ b)
 | [] => by simp [isrt]
 | x :: l => insI_sorted x _ (isrt_sorted l)
theorem isrt_eq (l : List Int) : l.mergeSort (fun x y => decide (x ≤ y)) = isrt l := by
 have h1 := List.pairwise_mergeSort (le := fun x y : Int => decide (x ≤ y)) (by intro a b c; simp; omega) (by intro a b; simp; omega) l
 have h2 : (l.mergeSort (fun x y => decide (x ≤ y))).Pairwise (fun a b => a ≤ b) := h1.imp (by intro a b; simp)
 exact List.Perm.eq_of_pairwise (le := fun a b => a ≤ b) (fun a b _ _ hab hba => Int.le_antisymm hab hba) h2 (isrt_sorted l) ((List.mergeSort_perm _ _).trans (isrt_perm l).symm)
structure Le {α : Type} (a b : Option α) : Prop where
 le : ∀ r, a = some r → b = some r
theorem Le.refl {α : Type} (a : Option α) : Le a a := ⟨fun _ h => h⟩
theorem Le.none {α : Type} (b : Option α) : Le none b := ⟨fun _ h => by cases h⟩
theorem Le.ite {α : Type} {c : Prop} [Decidable c] {a a' b b' : Option α} (h1 : Le a a') (h2 : Le b b') : Le (if c then a else b) (if c then a' else b') := by
 split
 ·exact h1
 ·exact h2
theorem Le.bind {α β : Type} {a a' : Option α} {f f' : α → Option β} (h1 : Le a a') (h2 : ∀ x, Le (f x) (f' x)) : Le (Option.bind a f) (Option.bind a' f') := by
 refine ⟨fun r h => ?_⟩
 cases a with
 | none => cases h
 | some x => rw [h1.le x rfl]; exact (h2 x).le r h
theorem Le.obind {α β γ : Type} {a a' : Option (Out α β)} {d : α → γ} {f f' : β → Option γ} (h1 : Le a a') (h2 : ∀ x, Le (f x) (f' x)) : Le (Eng.obind a d f) (Eng.obind a' d f') := by
 refine ⟨fun r h => ?_⟩
 cases a with
 | none => cases h
 | some x =>
  rw [h1.le x rfl]
  cases x with
  | done a => exact h
  | go x => exact (h2 x).le r h
theorem Le.at {α : Type} {a b : Option α} {r : α} (h : Le a b) (e : a = some r) : b = some r := h.le r e
end Go.Proofs.YtahpbjjfpbmaiaaDoor.Eng
namespace Go.Proofs.YtahpbjjfpbmaiaaDoor.Eng
open Go.RowKit (Below)
open Go.ChangeMaps (setBlock)
def mfold {α σ : Type} (f : α → σ → Option σ) : List α → σ → Option σ
 | [], s => some s
 | p :: l, s => (f p s).bind (mfold f l)
structure MComm {α σ : Type} (f : List UInt8 × α → σ → Option σ) (Inv : σ → Prop) : Prop where
 step : ∀ p s s', f p s = some s' → Inv s → Inv s'
 comm : ∀ p q s, p.1 ≠ q.1 → Inv s → (f p s).bind (f q) = (f q s).bind (f p)
theorem mfold_perm {α σ : Type} {f : List UInt8 × α → σ → Option σ} {Inv : σ → Prop} (hc : MComm f Inv) {l l' : List (List UInt8 × α)} (hp : l.Perm l') : (l.map (·.1)).Nodup → ∀ s, Inv s → mfold f l s = mfold f l' s := by
 induction hp with
 | nil => intros; rfl
 | cons p _ ih =>
  intro hn s hI
  have hn' := List.nodup_cons.1 hn
  unfold mfold
  cases hf : f p s with
  | none => rfl
  | some s' => exact ih hn'.2 s' (hc.step p s s' hf hI)
 | swap p q l =>
  intro hn s hI
  have hn' := List.nodup_cons.1 hn
  have hne : q.1 ≠ p.1 := fun e => hn'.1 (by show q.1 ∈ _; rw [e]; exact List.mem_cons_self ..)
  show (f q s).bind (fun s => (f p s).bind (mfold f l)) = (f p s).bind (fun s => (f q s).bind (mfold f l))
  have := congrArg (fun o => o.bind (mfold f l)) (hc.comm q p s hne hI)
  simpa [Option.bind_assoc] using this
 | trans h1 h2 ih1 ih2 =>
  intro hn s hI
  rw [ih1 hn s hI]
  exact ih2 ((h1.map (·.1)).nodup_iff.1 hn) s hI
theorem mfold_round {α σ : Type} {f : List UInt8 × α → σ → Option σ} {Inv : σ → Prop} (hc : MComm f Inv) {l l' : List (List UInt8 × α)} {p : List UInt8 × α} (hp : l.Perm (p :: l')) (hn : (l.map (·.1)).Nodup) {s r : σ} (hI : Inv s) (h : mfold f l s = some r) :
  ∃ s1, f p s = some s1 ∧ mfold f l' s1 = some r ∧ Inv s1 ∧ (l'.map (·.1)).Nodup ∧ l'.length < l.length := by
 rw [mfold_perm hc hp hn s hI] at h
 obtain ⟨s1, h1, h2⟩ := Option.bind_eq_some_iff.1 h
 refine ⟨s1, h1, h2, hc.step _ _ _ h1 hI, ?_, ?_⟩
 ·have := (hp.map (·.1)).nodup_iff.1 hn
  exact (List.nodup_cons.1 this).2
 ·have := hp.length_eq
  simp only [List.length_cons] at this
  omega
theorem bl_irr : ∀ x : List UInt8, Op.bytesLess x x = false
 | [] => rfl
 | a :: x => by simp [Op.bytesLess, bl_irr x]
theorem bl_trans : ∀ {x y z : List UInt8}, Op.bytesLess x y = true → Op.bytesLess y z = true → Op.bytesLess x z = true
 | [], _ :: _, _ :: _, _, _ => rfl
 | a :: x, b :: y, c :: z, h1, h2 => by
  simp only [Op.bytesLess, Bool.or_eq_true, Bool.and_eq_true, decide_eq_true_eq, beq_iff_eq] at h1 h2 ⊢
  rcases h1 with h1 | ⟨rfl, h1⟩
  ·rcases h2 with h2 | ⟨rfl, h2⟩
   ·exact .inl (UInt8.lt_trans h1 h2)
   ·exact .inl h1
  ·rcases h2 with h2 | ⟨rfl, h2⟩
   ·exact .inl h2
   ·exact .inr ⟨rfl, bl_trans h1 h2⟩
theorem bl_total : ∀ {x y : List UInt8}, Op.bytesLess x y = false → x ≠ y → Op.bytesLess y x = true
 | [], [], _, h => absurd rfl h
 | [], _ :: _, h, _ => by cases h
 | _ :: _, [], _, _ => rfl
 | a :: x, b :: y, h1, h2 => by
  simp only [Op.bytesLess, Bool.or_eq_false_iff, Bool.and_eq_false_iff, decide_eq_false_iff_not, beq_eq_false_iff_ne] at h1
  simp only [Op.bytesLess, Bool.or_eq_true, Bool.and_eq_true, decide_eq_true_eq, beq_iff_eq]
  by_cases hab : a = b
  ·subst hab
   rcases h1.2 with h | h
   ·exact absurd rfl h
   ·exact .inr ⟨rfl, bl_total h fun e => h2 (by rw [e])⟩
  ·left
   have h3 := h1.1
   rcases UInt8.lt_or_eq_of_le (UInt8.not_lt.1 h3) with h | h
   ·exact h
   ·exact absurd h.symm hab
theorem bl_asymm {x y : List UInt8} (h : Op.bytesLess x y = true) : Op.bytesLess y x = false := by
 cases hh : Op.bytesLess y x with
 | false => rfl
 | true => have := bl_trans h hh; rw [bl_irr] at this; cases this
def MSorted {α : Type} (l : List (List UInt8 × α)) : Prop := l.Pairwise fun p q => Op.bytesLess p.1 q.1 = true
theorem MSorted.mdel {α : Type} {l : List (List UInt8 × α)} (h : MSorted l) (k : List UInt8) : MSorted (mdel k l) := List.Pairwise.filter _ h
theorem MSorted.mins {α : Type} {p : List UInt8 × α} : ∀ {l : List (List UInt8 × α)}, MSorted l → (∀ q ∈ l, q.1 ≠ p.1) → MSorted (mins p l)
 | [], _, _ => by unfold Eng.mins; exact List.pairwise_singleton _ _
 | q :: r, h, hn => by
  obtain ⟨h1, h2⟩ := List.pairwise_cons.1 h
  unfold Eng.mins
  split
  ·rename_i hlt
   exact List.pairwise_cons.2 ⟨fun x hx => by
    rcases List.mem_cons.1 hx with rfl | hx
    ·exact hlt
    ·exact bl_trans hlt (h1 x hx), h⟩
  ·rename_i hlt
   refine List.pairwise_cons.2 ⟨fun x hx => ?_, MSorted.mins h2 fun y hy => hn y (.tail _ hy)⟩
   rcases List.mem_cons.1 ((mins_perm p r).mem_iff.1 hx) with rfl | hx
   ·exact bl_total (by simpa using hlt) fun e => hn q (.head _) e.symm
   ·exact h1 x hx
theorem mem_mdel {α : Type} {k : List UInt8} {l : List (List UInt8 × α)} {p : List UInt8 × α} : p ∈ mdel k l ↔ p ∈ l ∧ p.1 ≠ k := by
 unfold mdel
 rw [List.mem_filter]
 simp
theorem MSorted.mput {α : Type} {l : List (List UInt8 × α)} (h : MSorted l) (k : List UInt8) (v : α) : MSorted (mput k v l) := (h.mdel k).mins fun q hq => (mem_mdel.1 hq).2
theorem MSorted.eq {α : Type} {l l' : List (List UInt8 × α)} (h : MSorted l) (h' : MSorted l') (hp : l.Perm l') : l = l' :=
 List.Perm.eq_of_pairwise (le := fun p q : List UInt8 × α => Op.bytesLess p.1 q.1 = true) (fun a b _ _ hab hba => by rw [bl_asymm hab] at hba; cases hba) h h' hp
theorem mput_comm {α : Type} {l : List (List UInt8 × α)} (h : MSorted l) {k k' : List UInt8} (v v' : α) (hne : k ≠ k') : mput k v (mput k' v' l) = mput k' v' (mput k v l) := by
 refine MSorted.eq ((h.mput k' v').mput k v) ((h.mput k v).mput k' v') ?_
 have key : ∀ {k k' : List UInt8} (v v' : α), k ≠ k' → (mput k v (mput k' v' l)).Perm ((k, v) :: (k', v') :: mdel k (mdel k' l)) := by
  intro k k' v v' hne
  refine (mins_perm (k, v) _).trans (.cons _ ?_)
  have : (mdel k (mput k' v' l)).Perm (mdel k ((k', v') :: mdel k' l)) := (mins_perm (k', v') _).filter _
  refine this.trans ?_
  have e : mdel k ((k', v') :: mdel k' l) = (k', v') :: mdel k (mdel k' l) := by
   unfold mdel
   rw [List.filter_cons, if_pos (by simp [Ne.symm hne])]
  rw [e]
 have e : mdel k (mdel k' l) = mdel k' (mdel k l) := by
  unfold mdel
  rw [List.filter_filter, List.filter_filter]
  congr 1
  funext p
  exact Bool.and_comm _ _
 refine (key v v' hne).trans (.trans ?_ (key v' v (Ne.symm hne)).symm)
 rw [e]
 exact .swap _ _ _
def insS (x : List UInt8) : List (List UInt8) → List (List UInt8)
 | [] => [x]
 | y :: l => if Op.bytesLess y x = true then y :: insS x l else x :: y :: l
def ssrt : List (List UInt8) → List (List UInt8)
 | [] => []
 | x :: l => insS x (ssrt l)
theorem insS_perm (x : List UInt8) : ∀ l, (insS x l).Perm (x :: l)
 | [] => .refl _
 | y :: l => by
  unfold insS
  split
  ·exact ((insS_perm x l).cons y).trans (.swap x y l)
  ·exact .refl _
theorem ssrt_perm : ∀ l, (ssrt l).Perm l
 | [] => .refl _
 | x :: l => (insS_perm x _).trans ((ssrt_perm l).cons x)
abbrev leS (x y : List UInt8) : Prop := Op.bytesLess y x = false
theorem leS_trans {x y z : List UInt8} (h1 : leS x y) (h2 : leS y z) : leS x z := by
 by_cases hzx : Op.bytesLess z x = true
 ·by_cases hxy : x = y
  ·subst hxy; exact h2
  ·have := bl_total (x := y) (y := x) h1 (Ne.symm hxy)
   have := bl_trans hzx this
   rw [show Op.bytesLess z y = false from h2] at this; cases this
 ·simpa using hzx
theorem leS_antisymm {x y : List UInt8} (h1 : leS x y) (h2 : leS y x) : x = y := by
 by_cases h : x = y
 ·exact h
 ·have := bl_total (x := y) (y := x) h1 (Ne.symm h)
  rw [show Op.bytesLess x y = false from h2] at this; cases this
theorem leS_total (x y : List UInt8) : leS x y ∨ leS y x := by
 cases h : Op.bytesLess y x with
 | false => exact .inl h
 | true => exact .inr (bl_asymm h)
theorem insS_sorted (x : List UInt8) : ∀ l, l.Pairwise leS → (insS x l).Pairwise leS
 | [], _ => by simp [insS]
 | y :: l, h => by
  have h' := List.pairwise_cons.1 h
  unfold insS
  split
  ·rename_i hlt
   refine List.pairwise_cons.2 ⟨fun z hz => ?_, insS_sorted x l h'.2⟩
   rcases List.mem_cons.1 ((insS_perm x l).mem_iff.1 hz) with rfl | hz
   ·exact bl_asymm hlt
   ·exact h'.1 z hz
  ·rename_i hlt
   refine List.pairwise_cons.2 ⟨fun z hz => ?_, h⟩
   have hxy : leS x y := by simpa using hlt
   rcases List.mem_cons.1 hz with rfl | hz
   ·exact hxy
   ·exact leS_trans hxy (h'.1 z hz)
theorem ssrt_sorted : ∀ l, (ssrt l).Pairwise leS
 | [] => List.Pairwise.nil
 | x :: l => insS_sorted x _ (ssrt_sorted l)
theorem bl_lt : ∀ (x y : List UInt8), Op.bytesLess x y = decide (x < y)
 | [], [] => by simp [Op.bytesLess]
 | _ :: _, [] => by simp [Op.bytesLess]
 | [], _ :: _ => by simp [Op.bytesLess]
 | a :: x, b :: y => by
  rw [Op.bytesLess, bl_lt x y]
  simp only [List.cons_lt_cons_iff]
  by_cases h1 : a < b <;> by_cases h2 : a = b <;> by_cases h3 : x < y <;> simp [h1, h2, h3]
theorem leS_iff (x y : List UInt8) : decide (x ≤ y) = true ↔ leS x y := by
 unfold leS
 rw [bl_lt]
 simp
theorem ssrt_eq {ss l : List (List UInt8)} (hp : ss.Perm l) : ss.mergeSort (fun x y => decide (x ≤ y)) = ssrt l := by
 have h1 := List.pairwise_mergeSort (le := fun x y : List UInt8 => decide (x ≤ y)) (fun a b c h1 h2 => (leS_iff _ _).2 (leS_trans ((leS_iff _ _).1 h1) ((leS_iff _ _).1 h2)))
  (fun a b => by
   rcases leS_total a b with h | h
   ·simp [(leS_iff _ _).2 h]
   ·simp [(leS_iff _ _).2 h]) ss
 have h2 : (ss.mergeSort (fun x y => decide (x ≤ y))).Pairwise leS := h1.imp fun h => (leS_iff _ _).1 h
 exact List.Perm.eq_of_pairwise (le := leS) (fun a b _ _ hab hba => leS_antisymm hab hba) h2 (ssrt_sorted l) ((List.mergeSort_perm _ _).trans (hp.trans (ssrt_perm l).symm))
theorem ssrt_self {l : List (List UInt8)} (h : l.Pairwise leS) : ssrt l = l := List.Perm.eq_of_pairwise (le := leS) (fun a b _ _ hab hba => leS_antisymm hab hba) (ssrt_sorted l) h (ssrt_perm l)
def nextOps (ops : Array Oper) : Option (Operand × Nat × Nat) :=
 match ops.toList with
 | [o1, o2] => match o1.op, o1.guard, o1.dst, o2.op, o2.guard, o2.dst with
  | .next x false, none, some d1, .extract (.tmp d) 0, none, some d2 => bif Nat.beq d1 d then some (x, d1, d2) else none
  | _, _, _, _, _, _ => none
 | _ => none
section
variable {Tag : Type} {T : Tag → Type} {V : Env T} {P : Program} {n m : Nat} {Γ : Ent} {S : St T} {Q : Exit → St T → Prop}
theorem left_perm {e : MapEntry} : ∀ {L : List MapEntry}, (L.map (·.born)).Nodup → e ∈ L → L.Perm (e :: L.filter fun x => !(x.born == e.born))
 | x :: L, hn, he => by
  have hn' := List.nodup_cons.1 hn
  by_cases hx : x.born = e.born
  ·have hxe : x = e := by
    rcases List.mem_cons.1 he with h | h
    ·exact h.symm
    ·exact absurd (show x.born ∈ L.map (·.born) from by rw [hx]; exact List.mem_map.2 ⟨e, h, rfl⟩) hn'.1
   subst hxe
   rw [List.filter_cons, if_neg (by simp), List.filter_eq_self.2]
   intro y hy
   have : y.born ≠ x.born := fun e => hn'.1 (by show x.born ∈ _; rw [← e]; exact List.mem_map.2 ⟨y, hy, rfl⟩)
   simp [this]
  ·rw [List.filter_cons, if_pos (by simp [hx])]
   have he' : e ∈ L := by
    rcases List.mem_cons.1 he with h | h
    ·exact absurd (by rw [h]) hx
    ·exact h
   exact ((left_perm hn'.2 he').cons x).trans (.swap e x _)
theorem awp_map {c : Code} (it : Nat) {tg : Tag} {es : List (List UInt8 × T tg)} {cur : Option (List UInt8 × T tg)} (hl : look it S.heap = some (.itr tg es cur)) (h : (es.map (·.1)).Nodup → AWp V P n m Γ c Q S) : AWp V P n m Γ c Q S := fun Z ρ a w ha => by
 have hB := ha.blk _ _ hl
 cases hr : ρ it with
 | none => rw [hr] at hB; exact hB.elim
 | some p =>
  rw [hr] at hB
  obtain ⟨_, _, _, _, _, _, _, _, _, hn, _⟩ := hB
  exact h hn Z ρ a w ha
theorem awp_next {rid : Nat} {ops : Array Oper} {x : Operand} {d1 d2 it : Nat} {tg : Tag} {left : List (List UInt8 × T tg)} {cur : Option (List UInt8 × T tg)} (S0 : St T) (S1 : List UInt8 × T tg → List (List UInt8 × T tg) → St T)
  (hops : nextOps ops = some (x, d1, d2)) (hd : (Nat.blt d1 n && Nat.blt d2 n) = true) (hx : S.get x = some (.cv (.ptr it 0))) (hl : look it S.heap = some (.itr tg left cur))
  (hk0 : (((S.put (some d1) .any).put (some d2) (.cv (.lit (.bool false)))).keep S0.ts S0.ids).co S0 = S0)
  (hk1 : ∀ p l', ((((S.new it (.itr tg l' (some p))).put (some d1) .any).put (some d2) (.cv (.lit (.bool true)))).keep (S1 p l').ts (S1 p l').ids).co (S1 p l') = S1 p l')
  (h0 : left = [] → Q .normal S0) (h1 : ∀ p l', left.Perm (p :: l') → Q .normal (S1 p l')) : AWp V P n m Γ (.region rid ops false) Q S := by
 intro Z ρ a w ha
 unfold nextOps at hops
 split at hops
 ·rename_i o1 o2 hol
  split at hops
  ·rename_i x' d1' d d2' hop1 hg1 hdst1 hop2 hg2 hdst2
   cases hb : Nat.beq d1' d with
   | false => rw [hb] at hops; cases hops
   | true =>
    rw [hb] at hops
    cases hops
    have := Nat.eq_of_beq_eq_true hb
    subst this
    simp only [Bool.and_eq_true] at hd
    have hd1 : d1 < n := Nat.le_of_ble_eq_true hd.1
    have hd2 : d2 < n := Nat.le_of_ble_eq_true hd.2
    have hok1 : dstOk n (some d1) = true := hd.1
    have hok2 : dstOk n (some d2) = true := hd.2
    refine wp_region_list ?_
    rw [hol]
    have hxv := ha.get _ _ hx
    obtain ⟨b, c, hr, hbv⟩ : ∃ b c, ρ it = some (b, c) ∧ a.eval x = .pointer (some ⟨b, 0, none⟩) := by
     generalize a.eval x = u at hxv
     cases hxv with | cv hxv =>
     cases hxv with
     | pure h => cases h
     | ptr h => exact ⟨_, _, h, rfl⟩
    have hB := ha.blk _ _ hl
    rw [hr] at hB
    obtain ⟨mb, since, seen, arr, g1, g2, g3, g4, g5, g6, ⟨f, g7, g8⟩, g9⟩ := hB
    have hw1 : ∀ vs, Region.wanted o1 vs = true := fun vs => by unfold Region.wanted; rw [hg1]
    have hw2 : ∀ vs, Region.wanted o2 vs = true := fun vs => by unfold Region.wanted; rw [hg2]
    have hext : ∀ (a' : Act) (w' : World) (us : Array Value) (v : Value), a'.tmps.getD d1 undef = .tuple us → us[0]? = some v → (execOp a'.eval o2).run P w' = .ok (.value v) w' := fun a' w' us v e1 e2 => by
     unfold execOp
     rw [hop2]
     have : a'.eval (.tmp d1) = .tuple us := e1
     simp [this, Instr.extract, e2]
    have hget : ∀ (v : Value), (a.put o1.dst v).tmps.getD d1 undef = v := fun v => by
     rw [hdst1, put_get, if_pos ⟨rfl, by rw [ha.size]; exact hd1⟩]
    rcases run_next_at (P := P) w o1.type b mb since since seen arr since g1 g3 (fun e he => g4.2 e he) (Nat.le_refl _) with ⟨k1, k2⟩ | ⟨e, k1, w1, k2, k3⟩
    ·have hleft : left = [] := by
      have : (leftOf arr seen) = #[] := Array.eq_empty_of_size_eq_zero k1
      rw [this] at g7
      simpa using g7
     have hrun : (execOp a.eval o1).run P w = .ok (.value (.tuple #[.bool false])) w := by
      unfold execOp
      rw [hop1]
      simp only [hbv, Sem.run_bind, k2, Result.andThen]
      rfl
     simp only [wpList, hw1, hw2, if_true]
     refine .inl (wp_value hrun ?_)
     refine .inl (wp_value (hext _ _ _ (.bool false) (hget _) rfl) ?_)
     refine ⟨S0, Z, ρ, h0 hleft, ?_⟩
     rw [← hk0]
     refine Abs.co V ?_ _
     refine Abs.keep ?_ _ _
     rw [hdst1, hdst2]
     exact (ha.put hok1 .any).put hok2 (litBool V.E)
    ·have hrun : (execOp a.eval o1).run P w = .ok (.value (.tuple #[.bool true, e.key, e.val])) (setBlock w1 b (.mapIter (some mb) since (seen.push e.born) since)) := by
      unfold execOp
      rw [hop1]
      simp only [hbv, Sem.run_bind, k3, Result.andThen]
      rfl
     simp only [wpList, hw1, hw2, if_true]
     refine .inl (wp_value hrun ?_)
     refine .inl (wp_value (hext _ _ _ (.bool true) (hget _) rfl) ?_)
     obtain ⟨he1, he2⟩ := mem_left k1
     have hp : left.Perm (f e :: (leftOf arr (seen.push e.born)).toList.map f) := by
      refine g7.symm.trans ?_
      have hnl : ((leftOf arr seen).toList.map (·.born)).Nodup := by
       have : (leftOf arr seen).toList.Sublist arr.toList := by unfold leftOf; rw [Array.toList_filter]; exact List.filter_sublist
       exact (this.map _).nodup g4.1
      have h2 := (left_perm hnl k1).map f
      have h3 : (leftOf arr (seen.push e.born)).toList = (leftOf arr seen).toList.filter fun x => !(x.born == e.born) := by
       unfold leftOf
       rw [Array.toList_filter, Array.toList_filter, List.filter_filter]
       congr 1
       funext y
       rw [contains_push]
       cases seen.contains y.born <;> cases (y.born == e.born) <;> rfl
      rw [h3]
      exact h2
     refine ⟨S1 (f e) _, Z, ρ, h1 _ _ hp, ?_⟩
     rw [← hk1]
     refine Abs.co V ?_ _
     refine Abs.keep ?_ _ _
     rw [hdst1, hdst2]
     have hlt := (ha.own it _ b c hl hr).1
     have hnz := (ha.own it _ b c hl hr).2.1
     have hheap1 : w1.heap = w.heap := by rcases k2 with rfl | rfl <;> rfl
     have hg : w.grownBy (setBlock w1 b (.mapIter (some mb) since (seen.push e.born) since)) (some b) := by
      have hb1 : ∀ i, i < w.heap.size → some i ≠ some b → (setBlock w1 b (.mapIter (some mb) since (seen.push e.born) since)).heap[i]? = w.heap[i]? := fun i hi hne => by
       show (w1.heap.setIfInBounds b _)[i]? = _
       rw [hheap1]
       have : b ≠ i := fun e => hne (by rw [e])
       simp [this]
      rcases k2 with rfl | rfl
      ·exact ⟨rfl, rfl, rfl, by show _ ≤ (w1.heap.setIfInBounds b _).size; simp, hb1⟩
      ·exact ⟨rfl, rfl, rfl, by show _ ≤ (w.heap.setIfInBounds b _).size; simp, hb1⟩
     have hZ : ∀ b', Z b' → (setBlock w1 b (.mapIter (some mb) since (seen.push e.born) since)).heap[b']? = w.heap[b']? := fun b' hb' => hg.block b' (ha.Zlt b' hb') (fun e => hnz (by cases e; exact hb'))
     have hnd : (((leftOf arr (seen.push e.born)).toList.map f).map (·.1)).Nodup := by
      have := (hp.map (·.1)).nodup_iff.1 g6
      exact (List.nodup_cons.1 this).2
     have hsub : ∀ y ∈ (leftOf arr (seen.push e.born)).toList, y ∈ (leftOf arr seen).toList := fun y hy => by
      unfold leftOf at hy ⊢
      rw [Array.toList_filter, List.mem_filter] at hy ⊢
      refine ⟨hy.1, ?_⟩
      have := hy.2
      rw [contains_push] at this
      cases hs : seen.contains y.born with
      | true => rw [hs] at this; simp at this
      | false => rfl
     have := Abs.rebase (id := it) (bc := ρ it) ha (.inl rfl) (old := some b) (fun k hk => by cases hk; exact ⟨_, _, hl, hr⟩) hg
      (fun b' c' hbc => by rw [hr] at hbc; cases hbc; exact ⟨Nat.lt_of_lt_of_le hlt hg.size, .inr rfl⟩) (B := .itr tg ((leftOf arr (seen.push e.born)).toList.map f) (some (f e))) (by
       rw [hr]
       refine ⟨mb, since, seen.push e.born, arr, ?_, g2, (hZ mb g2).trans g3, g4, g5, hnd, ⟨f, .refl _, fun y hy => (g8 y (hsub y hy)).mono V.E (fun _ h => h) hZ⟩, fun p hp => ?_⟩
       ·show (w1.heap.setIfInBounds b _)[b]? = _
        rw [hheap1]
        simp [hlt]
       ·cases hp
        exact ⟨seen, e, he1, rfl, (g8 e k1).mono V.E (fun _ h => h) hZ⟩)
     rw [updO_self] at this
     exact (this.put hok1 .any).put hok2 (litBool V.E)
  ·cases hops
 ·cases hops
theorem an {rid : Nat} {ops : Array Oper} {x : Operand} {d1 d2 it : Nat} {tg : Tag} {left : List (List UInt8 × T tg)} {cur : Option (List UInt8 × T tg)} (S0 : St T) (S1 : List UInt8 × T tg → List (List UInt8 × T tg) → St T)
  (h0 : left = [] → Q .normal S0) (h1 : ∀ p l', left.Perm (p :: l') → Q .normal (S1 p l'))
  (hops : nextOps ops = some (x, d1, d2) := by kernel_rfl) (hd : (Nat.blt d1 n && Nat.blt d2 n) = true := by kernel_rfl) (hx : S.get x = some (.cv (.ptr it 0)) := by kernel_rfl) (hl : look it S.heap = some (.itr tg left cur) := by kernel_rfl)
  (hk0 : (((S.put (some d1) .any).put (some d2) (.cv (.lit (.bool false)))).keep S0.ts S0.ids).co S0 = S0 := by kernel_rfl)
  (hk1 : ∀ p l', ((((S.new it (.itr tg l' (some p))).put (some d1) .any).put (some d2) (.cv (.lit (.bool true)))).keep (S1 p l').ts (S1 p l').ids).co (S1 p l') = S1 p l' := by intro p l'; kernel_rfl) : AWp V P n m Γ (.region rid ops false) Q S :=
 awp_next S0 S1 hops hd hx hl hk0 hk1 h0 h1
end
end Go.Proofs.YtahpbjjfpbmaiaaDoor.Eng
namespace Go.Proofs.YtahpbjjfpbmaiaaDoor.Eng
open Go.RowKit (Below)
section
variable {Tag : Type} {T : Tag → Type}
def thinC (isB : Tag → Bool) : CV T → Bool
 | .lit _ | .str _ => true
 | .ro t _ => isB t
 | _ => false
def thinN (isB : Tag → Bool) : CV T → Bool
 | .ptr i _ | .own _ i | .mp i => Nat.ble 100 i
 | c => thinC isB c
def thinB (E : Enc T) (isB : Tag → Bool) (tg : Tag) : Blk T → Bool
 | .raw cs => cs.all (thinN isB)
 | .mpb t _ => match E.dec t tg with | .isTrue _ => true | .isFalse _ => false
 | _ => false
def noU8 : CV T → Bool
 | .lit (.int .u8 _) => false
 | .any => false
 | .pel _ _ _ _ => true
 | _ => true
def noByte : Blk T → Bool
 | .raw cs => cs.all noU8
 | .mpb _ _ => true
 | _ => false
variable {V : Env T} {P : Program}
theorem noU8_val {w : World} {Z : Nat → Prop} {ρ : Nat → Option (Nat × Nat × Nat)} {c : CV T} {v : Value} (h : RC V.E w Z ρ c v) (hc : noU8 c = true) (n : Int) : v ≠ .int .u8 n := by
 cases h with
 | pure h => cases h with
  | lit h => intro e; subst e; cases hc
  | any h => cases hc
  | _ => intro e; cases e
 | _ => intro e; cases e
theorem noByte_cell {w : World} {Z : Nat → Prop} {ρ : Nat → Option (Nat × Nat × Nat)} {B : Blk T} {b : Nat} {c : Nat × Nat} (h : BR V.E w Z ρ B (some (b, c))) (hc : noByte B = true) (a : Addr) (ha : a.block = b) (n : Int) : w.cell? a ≠ some (.int .u8 n) := by
 cases B with
 | raw cs =>
  obtain ⟨arr, e, h1, h2, h3⟩ := h
  intro hh
  unfold World.cell? at hh
  rw [ha, h1] at hh
  simp only at hh
  split at hh
  ·cases hh
  ·have hlt : a.off < cs.length := by rw [← h2]; exact (Array.getElem?_eq_some_iff.1 hh).1
   have hcs : cs[a.off]? = some cs[a.off] := List.getElem?_eq_getElem hlt
   exact noU8_val (h3 _ _ _ hcs hh) (List.all_eq_true.1 hc _ (List.getElem_mem _)) n rfl
 | mpb t es =>
  obtain ⟨arr, clock, h1, _⟩ := h
  intro hh
  unfold World.cell? at hh
  rw [ha, h1] at hh
  cases hh
 | _ => cases hc
theorem thinC_pr (L : V.E.Law V.isB V.toB) {w : World} {Z Z' : Nat → Prop} (hx : ∀ b, Z b → Z' b ∨ ∀ a : Addr, a.block = b → ∀ n, w.cell? a ≠ some (.int .u8 n)) {c : CV T} {v : Value} (h : PR V.E w Z c v) (hc : thinC V.isB c = true) : PR V.E w Z' c v := by
 cases h with
 | lit h => exact .lit h
 | str l => exact .str l
 | any h => cases hc
 | ronil t A cap => exact .ronil t A cap
 | ro t xs a cap u hz hcap hcell hrel =>
  have hk := fun x => L.byte t x hc
  cases xs with
  | nil => exact .ronil t (some a) cap
  | cons x xs =>
   have hZ : Z' a.block := by
    rcases hx _ hz with h | h
    ·exact h
    ·have h1 := hcell 0 x 0 _ rfl (by rw [hk]; rfl)
     have h2 := hrel 0 x 0 _ rfl (by rw [hk]; rfl)
     have := inv_plit V.E h2
     rw [this] at h1
     exact absurd h1 (h _ (add_block _ _) _)
   refine .ro t _ a cap u hZ hcap hcell fun i y j c hy hcc => ?_
   have h2 := hrel i y j c hy hcc
   rw [hk] at hcc
   cases j with
   | zero =>
    simp at hcc
    subst hcc
    have := inv_plit V.E h2
    rw [this]
    exact .lit rfl
   | succ j => simp at hcc
 | pcs => cases hc
 | rom => cases hc
theorem thinN_rc (L : V.E.Law V.isB V.toB) {w : World} {Z Z' : Nat → Prop} {ρ ρ' : Nat → Option (Nat × Nat × Nat)} (hx : ∀ b, Z b → Z' b ∨ ∀ a : Addr, a.block = b → ∀ n, w.cell? a ≠ some (.int .u8 n)) (hρ : ∀ i, 100 ≤ i → ρ' i = ρ i)
  {c : CV T} {v : Value} (h : RC V.E w Z ρ c v) (hc : thinN V.isB c = true) : RC V.E w Z' ρ' c v := by
 cases h with
 | pure h =>
  have : thinC V.isB c = true := by cases c <;> first | exact hc | cases h
  exact .pure (thinC_pr L hx h this)
 | ptr h => exact .ptr ((hρ _ (Nat.le_of_ble_eq_true hc)).trans h)
 | own h => exact .own ((hρ _ (Nat.le_of_ble_eq_true hc)).trans h)
 | ownv h => exact .ownv ((hρ _ (Nat.le_of_ble_eq_true hc)).trans h)
 | mp h => exact .mp ((hρ _ (Nat.le_of_ble_eq_true hc)).trans h)
 | pel h => cases hc
 | fn => cases hc
 | ifc1 => cases hc
 | ifca => cases hc
 | rol => cases hc
 | pcs => cases hc
 | ron => cases hc
theorem thinB_br (L : V.E.Law V.isB V.toB) {tg : Tag} (htg : ∀ x, (V.E.k tg x).all (thinC V.isB) = true) {w : World} {Z Z' : Nat → Prop} {ρ ρ' : Nat → Option (Nat × Nat × Nat)} (hx : ∀ b, Z b → Z' b ∨ ∀ a : Addr, a.block = b → ∀ n, w.cell? a ≠ some (.int .u8 n)) (hρ : ∀ i, 100 ≤ i → ρ' i = ρ i)
  {B : Blk T} {bc : Option (Nat × Nat × Nat)} (h : BR V.E w Z ρ B bc) (hc : thinB V.E V.isB tg B = true) : BR V.E w Z' ρ' B bc := by
 cases B with
 | raw cs =>
  cases bc with
  | none => exact h
  | some p =>
   obtain ⟨b, c⟩ := p
   obtain ⟨arr, e, h1, h2, h3⟩ := h
   exact ⟨arr, e, h1, h2, fun i c u hcc hu => thinN_rc L hx hρ (h3 i c u hcc hu) (List.all_eq_true.1 hc _ (List.mem_of_getElem? hcc))⟩
 | mpb t es =>
  have ht : t = tg := by
   revert hc
   show (match V.E.dec t tg with | .isTrue _ => true | .isFalse _ => false) = true → _
   cases V.E.dec t tg with
   | isTrue h => exact fun _ => h
   | isFalse h => intro e; cases e
  subst ht
  cases bc with
  | none => exact h
  | some p =>
   obtain ⟨b, c⟩ := p
   obtain ⟨arr, clock, h1, g1, g2, g3, f, g4, g5⟩ := h
   refine ⟨arr, clock, h1, g1, g2, g3, f, g4, fun e he => ⟨(g5 e he).1, ?_⟩⟩
   rcases (g5 e he).2 with ⟨k1, us, k2, k3, k4⟩ | ⟨k1, c, k2, k3⟩
   ·exact .inl ⟨k1, us, k2, k3, fun j c u hcc hu => thinC_pr L hx (k4 j c u hcc hu) (List.all_eq_true.1 (htg _) _ (List.mem_of_getElem? hcc))⟩
   ·exact .inr ⟨k1, c, k2, thinC_pr L hx k3 (List.all_eq_true.1 (htg (f e).2) _ (by rw [k2]; exact List.mem_singleton.2 rfl))⟩
 | lst t xs => cases hc
 | itr t l c => cases hc
 | zr t l => cases hc
 | fz t xs => cases hc
def liftOk (V : Env T) (tg : Tag) (args : List (AV T)) (H : List (Nat × Blk T)) (r : AV T) (H' : List (Nat × Blk T)) : Bool :=
 (lendA.lendAL H args).isEmpty && (H.all fun p => Nat.blt p.1 100 && (noByte p.2 && p.2.inB (fun i => Nat.blt i 100))) && (match r with | .cv c => thinN V.isB c | _ => false) && H'.all fun p => Nat.ble 100 p.1 && thinB V.E V.isB tg p.2
theorem ECall.lift (L : V.E.Law V.isB V.toB) (tg : Tag) (htg : ∀ x, (V.E.k tg x).all (thinC V.isB) = true) {f : FuncId} {args : List (AV T)} {H : List (Nat × Blk T)} {r : AV T} {H' : List (Nat × Blk T)}
  (h : ECall V P f (args.map (lend V.E H)) [] [] r H') (hk : liftOk V tg args H r H' = true) : ECall V P f args H (H.map (·.1)) r (H ++ H') := by
 simp only [liftOk, Bool.and_eq_true, List.isEmpty_iff] at hk
 obtain ⟨⟨⟨hA, hH⟩, hr⟩, hH'⟩ := hk
 have hHl : ∀ {id : Nat} {blk : Blk T}, look id H = some blk → id < 100 ∧ noByte blk = true ∧ blk.inB (fun i => Nat.blt i 100) = true := fun hl => by
  have := List.all_eq_true.1 hH _ (look_mem hl)
  simp only [Bool.and_eq_true] at this
  exact ⟨Nat.le_of_ble_eq_true this.1, this.2⟩
 have hHl' : ∀ {id : Nat} {blk : Blk T}, look id H' = some blk → 100 ≤ id ∧ thinB V.E V.isB tg blk = true := fun hl => by
  have := List.all_eq_true.1 hH' _ (look_mem hl)
  simp only [Bool.and_eq_true] at this
  exact ⟨Nat.le_of_ble_eq_true this.1, this.2⟩
 refine ⟨h.1, fun w Z ρ vs hZ hsz hargs hR => ?_⟩
 have hZL : ∀ b, ZL Z H ρ b → b < w.heap.size := fun b hb => by
  rcases hb with hb | ⟨id, blk, c, e1, e2⟩
  ·exact hZ.lt b hb
  ·exact (hR.own id blk b c e1 e2).1
 have hlA : ∀ {us : List (AV T)}, lendA.lendAL H us = [] → ∀ (i : Nat) d, us[i]? = some d → lendA H d = [] := by
  intro us
  induction us with
  | nil => intro _ i d hd; simp at hd
  | cons y ys ih =>
   intro he i d hd
   simp only [lendA.lendAL, List.append_eq_nil_iff] at he
   cases i with
   | zero => simp at hd; subst hd; exact he.1
   | succ i => exact ih he.2 i d (by simpa using hd)
 refine (h.2 w (ZL Z H ρ) ρ vs ⟨hZL, hZ.glb.mono (fun _ h => .inl h) (fun _ _ => rfl)⟩ (by simpa using hsz) (fun i x v hx hv => ?_) ⟨fun id blk b c hl => (by cases hl), fun id id' blk blk' b c c' hl => (by cases hl), fun id blk hl => (by cases hl)⟩).mono fun e w' he => ?_
 ·simp only [List.getElem?_map, Option.map_eq_some_iff] at hx
  obtain ⟨d, hd, rfl⟩ := hx
  exact lend_sound V (hargs i d v hd hv) (by rw [hlA hA i d hd]; exact trivial) hR.blk
 ·obtain ⟨v, Z', ρ', rfl, hp, hra⟩ := he
  have hblk : ∀ b, b < w.heap.size → w'.heap[b]? = w.heap[b]? := fun b hb => hp.onto.block b hb fun ⟨_, _, _, h, _⟩ => by cases h
  have hfr : ∀ id blk b c, look id H' = some blk → ρ' id = some (b, c) → w.heap.size ≤ b := fun id blk b c h1 h2 => by
   rcases hp.from_ id blk b c h1 h2 with h | ⟨_, _, h, _⟩
   ·exact h
   ·cases h
  have hsubZ : ∀ b, Z b → Z' b ∧ ¬ inH ρ H b := fun b hb => ⟨hp.onto.sub b (.inl hb), fun ⟨id, blk, c, e1, e2⟩ => (hR.own id blk b c e1 e2).2 hb⟩
  have hx : ∀ b, Z' b → (Z' b ∧ ¬ inH ρ H b) ∨ ∀ a : Addr, a.block = b → ∀ n, w'.cell? a ≠ some (.int .u8 n) := fun b hb => by
   by_cases hi : inH ρ H b
   ·right
    obtain ⟨id, blk, c, e1, e2⟩ := hi
    have hB := hR.blk id blk e1
    rw [e2] at hB
    have hlt := (hR.own id blk b c e1 e2).1
    intro a ha n
    have := noByte_cell hB (hHl e1).2.1 a ha n
    have e := World.cell?_of_block (a := a) (w := w) (w' := w') (by rw [ha]; exact hblk b hlt)
    rw [e]
    exact this
   ·exact .inl ⟨hb, hi⟩
  let ρ2 : Nat → Option (Nat × Nat × Nat) := fun id => if id < 100 then ρ id else ρ' id
  have hρ1 : ∀ i, i < 100 → ρ2 i = ρ i := fun i hi => if_pos hi
  have hρ2 : ∀ i, 100 ≤ i → ρ2 i = ρ' i := fun i hi => if_neg (by omega)
  have hlook : ∀ id blk, look id (H ++ H') = some blk → (look id H = some blk ∧ id < 100) ∨ (look id H' = some blk ∧ 100 ≤ id) := fun id blk hl => by
   rw [look_append] at hl
   cases h1 : look id H with
   | some b => rw [h1] at hl; cases hl; exact .inl ⟨rfl, (hHl h1).1⟩
   | none => rw [h1] at hl; exact .inr ⟨hl, (hHl' hl).1⟩
  refine ⟨v, fun b => Z' b ∧ ¬ inH ρ H b, ρ2, rfl, ⟨⟨hp.onto.os, hp.onto.tape, hp.onto.output, hp.onto.size, fun b hb _ => hblk b hb, hsubZ, fun b hb => ?_⟩, fun id hid => ?_, ⟨fun id blk b c hl hr => ?_, fun id id' blk blk' b c c' hl hl' hr hr' => ?_, fun id blk hl => ?_⟩, fun id blk b c hl hr => ?_⟩, ?_⟩
  ·rcases hp.onto.fresh b hb.1 with (h | h) | h
   ·exact .inl h
   ·exact absurd h hb.2
   ·exact .inr h
  ·obtain ⟨⟨i, blk⟩, hm, rfl⟩ := List.mem_map.1 hid
   have := List.all_eq_true.1 hH _ hm
   simp only [Bool.and_eq_true] at this
   exact hρ1 _ (Nat.le_of_ble_eq_true this.1)
  ·rcases hlook id blk hl with ⟨h1, h2⟩ | ⟨h1, h2⟩
   ·rw [hρ1 id h2] at hr
    exact ⟨Nat.lt_of_lt_of_le (hR.own id blk b c h1 hr).1 hp.onto.size, fun hz => hz.2 ⟨id, blk, c, h1, hr⟩⟩
   ·rw [hρ2 id h2] at hr
    have := hp.rel.own id blk b c h1 hr
    exact ⟨this.1, fun hz => this.2 hz.1⟩
  ·rcases hlook id blk hl with ⟨h1, h2⟩ | ⟨h1, h2⟩ <;> rcases hlook id' blk' hl' with ⟨h3, h4⟩ | ⟨h3, h4⟩
   ·rw [hρ1 id h2] at hr; rw [hρ1 id' h4] at hr'
    exact hR.inj id id' blk blk' b c c' h1 h3 hr hr'
   ·rw [hρ1 id h2] at hr; rw [hρ2 id' h4] at hr'
    have := (hR.own id blk b c h1 hr).1
    have := hfr id' blk' b c' h3 hr'
    omega
   ·rw [hρ2 id h2] at hr; rw [hρ1 id' h4] at hr'
    have := (hR.own id' blk' b c' h3 hr').1
    have := hfr id blk b c h1 hr
    omega
   ·rw [hρ2 id h2] at hr; rw [hρ2 id' h4] at hr'
    exact hp.rel.inj id id' blk blk' b c c' h1 h3 hr hr'
  ·rcases hlook id blk hl with ⟨h1, h2⟩ | ⟨h1, h2⟩
   ·rw [hρ1 id h2]
    refine BR.mono hsubZ (fun b hb => hblk b (hZ.lt b hb)) (fun b c hbc => hblk b (hR.own id blk b c h1 hbc).1) (hR.blk id blk h1) fun i hi => hρ1 i ?_
    exact Nat.le_of_ble_eq_true (Blk.inB_names (hHl h1).2.2 hi)
   ·rw [hρ2 id h2]
    exact thinB_br L htg hx hρ2 (hp.rel.blk id blk h1) (hHl' h1).2
  ·rcases hlook id blk hl with ⟨h1, h2⟩ | ⟨h1, h2⟩
   ·rw [hρ1 id h2] at hr
    exact .inr ⟨blk, c, h1, hr⟩
   ·rw [hρ2 id h2] at hr
    exact .inl (hfr id blk b c h1 hr)
  ·cases r with
   | cv c =>
    cases hra with | cv hra =>
    exact .cv (thinN_rc L hx hρ2 hra hr)
   | _ => cases hr
theorem ECall.lift' (L : V.E.Law V.isB V.toB) (tg : Tag) {f : FuncId} {args args0 : List (AV T)} {H : List (Nat × Blk T)} {fx : List Nat} {r : AV T} {H' H2 : List (Nat × Blk T)} (htg : ∀ x, (V.E.k tg x).all (thinC V.isB) = true)
  (h : ECall V P f args0 [] [] r H') (he : args.map (lend V.E H) = args0) (hf : H.map (·.1) = fx) (h2 : H ++ H' = H2) (hk : liftOk V tg args H r H' = true) : ECall V P f args H fx r H2 := by
 subst he; subst hf; subst h2
 exact ECall.lift L tg htg h hk
end
end Go.Proofs.YtahpbjjfpbmaiaaDoor.Eng
