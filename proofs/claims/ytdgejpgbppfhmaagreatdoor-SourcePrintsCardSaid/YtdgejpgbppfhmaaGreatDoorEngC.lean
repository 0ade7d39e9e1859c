import Derived.Test.YtdgejpgbppfhmaaGreatDoorEngB
import Derived.ProofKit
import Derived.Deep.Slices
import Derived.DataElems
import Derived.SizedLaws
set_option linter.unusedVariables false
set_option linter.unusedSimpArgs false
namespace Go.Proofs.YtdgejpgbppfhmaaGreatDoor.Eng
open Go.RowKit (Below)
structure T5 {Tag:Type} (T:Tag→Type) (α:Type) where
 sz:Nat
 k:α→List (CV T)
 p:List (CV T)→Option (List Prop×α×List (CV T))
 klen:∀ x,(k x).length=sz
 ok:∀ cs ps x rest,p cs=some (ps,x,rest)→Us ps→∀ (j:Nat),j < sz→∀ c,(k x)[j]? = some c→∃ d,cs[j]? = some d∧∀ (E:Uv T) w Z ρ v,RC E w Z ρ d v→PR E w Z c v
 rest:∀ cs ps x rest,p cs=some (ps,x,rest)→rest=cs.drop sz
section
variable {Tag:Type} {T:Tag→Type}
def Agm:CV T→Bool
 | .lit _ | .str _ | .any | .ro _ _=>true
 | _=>false
theorem Yk {E:Uv T} {w:World} {Z:Nat→Prop} {ρ:Nat→Option (Nat×Nat×Nat)} {c:CV T} {v:Value} (hc:Agm c=true) (h:RC E w Z ρ c v):PR E w Z c v:=by
 cases h with
 | pure h=>exact h
 | _=>cases hc
def T5.int (k:IntKind):T5 T Int where
 sz:=1
 k n:=[.lit (.int k n)]
 p
  | .lit (.int k' n) :: rest=>match decEq k' k with | .isTrue _=>some ([],n,rest) | .isFalse _=>none
  | _=>none
 klen _:=rfl
 ok:=by
  intro cs ps x rest h _ j hj c hc
  have:j=0:=by omega
  subst this;split at h
  ·split at h
   ·rename_i hk _;cases h;subst hk;simp at hc;subst hc;exact ⟨_,rfl,fun E w Z ρ v h=>Yk rfl h⟩
   ·cases h
  ·cases h
 rest:=by
  intro cs ps x rest h;split at h
  ·split at h
   ·cases h; rfl
   ·cases h
  ·cases h
def T5.byte:T5 T UInt8 where
 sz:=1
 k b:=[.lit (.int .u8 b.toNat)]
 p
  | .lit (.int .u8 n) :: rest=>some ([0≤n,n < 256],UInt8.ofNat n.toNat,rest)
  | _=>none
 klen _:=rfl
 ok:=by
  intro cs ps x rest h hps j hj c hc
  have:j=0:=by omega
  subst this;split at h
  ·rename_i n _;cases h;obtain ⟨h0,h1⟩:=hps;replace h1:n < 256:=h1;simp at hc;subst hc;refine ⟨_,rfl,fun E w Z ρ v h=>?_⟩;rw [show max n 0 % 256=n from by omega];exact Yk rfl h
  ·cases h
 rest:=by
  intro cs ps x rest h;split at h
  ·cases h; rfl
  ·cases h
def T5.bool:T5 T Bool where
 sz:=1
 k b:=[.lit (.bool b)]
 p
  | .lit (.bool b) :: rest=>some ([],b,rest)
  | _=>none
 klen _:=rfl
 ok:=by
  intro cs ps x rest h _ j hj c hc
  have:j=0:=by omega
  subst this;split at h
  ·cases h;simp at hc;subst hc;exact ⟨_,rfl,fun E w Z ρ v h=>Yk rfl h⟩
  ·cases h
 rest:=by
  intro cs ps x rest h;split at h
  ·cases h; rfl
  ·cases h
def T5.str:T5 T (List UInt8) where
 sz:=1
 k b:=[.str b]
 p
  | .str b :: rest=>some ([],b,rest)
  | _=>none
 klen _:=rfl
 ok:=by
  intro cs ps x rest h _ j hj c hc
  have:j=0:=by omega
  subst this;split at h
  ·cases h;simp at hc;subst hc;exact ⟨_,rfl,fun E w Z ρ v h=>Yk rfl h⟩
  ·cases h
 rest:=by
  intro cs ps x rest h;split at h
  ·cases h; rfl
  ·cases h
def T5.sl [DecidableEq Tag] (t:Tag):T5 T (List (T t)) where
 sz:=1
 k l:=[.ro t l]
 p
  | .ro t' l :: rest=>match decEq t' t with | .isTrue h=>some ([],h ▸ l,rest) | .isFalse _=>none
  | .lit (.slice none 0 0) :: rest=>some ([],[],rest)
  | _=>none
 klen _:=rfl
 ok:=by
  intro cs ps x rest h _ j hj c hc
  have:j=0:=by omega
  subst this;split at h
  ·split at h
   ·rename_i hk _;cases h;subst hk;simp at hc;subst hc;exact ⟨_,rfl,fun E w Z ρ v h=>Yk rfl h⟩
   ·cases h
  ·cases h;simp at hc;subst hc;refine ⟨_,rfl,fun E w Z ρ v h=>?_⟩;cases h with
   | pure h=>cases h with | lit _=>exact .ronil _ _ _
  ·cases h
 rest:=by
  intro cs ps x rest h;split at h
  ·split at h
   ·cases h; rfl
   ·cases h
  ·cases h; rfl
  ·cases h
def T5.pair {α β:Type} (a:T5 T α) (b:T5 T β):T5 T (α×β) where
 sz:=a.sz+b.sz
 k x:=a.k x.1++b.k x.2
 p cs:=match a.p cs with
  | some (ps,x,r)=>match b.p r with
   | some (qs,y,r')=>some (ps++qs,(x,y),r')
   | none=>none
  | none=>none
 klen x:=by simp [a.klen,b.klen]
 ok:=by
  intro cs ps x rest h hps j hj c hc;split at h
  ·rename_i p1 x1 r1 h1;split at h
   ·rename_i p2 x2 r2 h2;cases h;obtain ⟨g1,g2⟩:=hps.append;by_cases hlt:j < a.sz
    ·rw [List.getElem?_append_left (by rw [a.klen]; exact hlt)] at hc;exact a.ok _ _ _ _ h1 g1 j hlt c hc
    ·rw [List.getElem?_append_right (by rw [a.klen]; omega),a.klen] at hc;obtain ⟨d,hd,hr⟩:=b.ok _ _ _ _ h2 g2 (j - a.sz) (by omega) c hc;rw [a.rest _ _ _ _ h1,List.getElem?_drop] at hd;exact ⟨d,by rw [← hd]; congr 1; omega,hr⟩
   ·cases h
  ·cases h
 rest:=by
  intro cs ps x rest h;split at h
  ·rename_i p1 x1 r1 h1;split at h
   ·rename_i p2 x2 r2 h2;cases h;rw [b.rest _ _ _ _ h2,a.rest _ _ _ _ h1,List.drop_drop]
   ·cases h
  ·cases h
def T5.iso {α β:Type} (a:T5 T α) (f:β→α) (g:α→β) (hfg:∀ x,f (g x)=x):T5 T β where
 sz:=a.sz
 k x:=a.k (f x)
 p cs:=match a.p cs with
  | some (ps,x,r)=>some (ps,g x,r)
  | none=>none
 klen x:=a.klen _
 ok:=by
  intro cs ps x rest h hps j hj c hc;split at h
  ·rename_i p1 x1 r1 h1;cases h;rw [hfg] at hc;exact a.ok _ _ _ _ h1 hps j hj c hc
  ·cases h
 rest:=by
  intro cs ps x rest h;split at h
  ·rename_i p1 x1 r1 h1;cases h;exact a.rest _ _ _ _ h1
  ·cases h
def T5.un {α:Type} (a:T5 T α) (cs:List (CV T)):Option (List Prop×α) :=
 match a.p cs with
 | some (ps,x,[])=>some (ps,x)
 | _=>none
theorem T5.un_ok {α:Type} (a:T5 T α) {cs:List (CV T)} {ps:List Prop} {x:α} (h:a.un cs=some (ps,x)) (hps:Us ps) (j:Nat) (c:CV T) (hc:(a.k x)[j]? = some c) :
  ∃ d,cs[j]? = some d∧∀ (E:Uv T) w Z ρ v,RC E w Z ρ d v→PR E w Z c v:=by
 unfold T5.un at h;split at h
 ·rename_i h1;cases h;exact a.ok _ _ _ _ h1 hps j (by rw [← a.klen x]; exact (List.getElem?_eq_some_iff.1 hc).1) c hc
 ·cases h
end
theorem Aff {α:Type} {C:Prop} [Decidable C] {A B:Option α} {r:α} (h:(if C then A else B)=some r):(C∧A=some r)∨(¬ C∧B=some r):=by
 split at h
 ·exact .inl ⟨‹_›,h⟩
 ·exact .inr ⟨‹_›,h⟩
theorem Ad1 {α:Type} {C:Prop} [Decidable C] {A:Option α} {r:α} (h:(if C then A else none)=some r):C∧A=some r:=by
 split at h
 ·exact ⟨‹_›,h⟩
 ·cases h
theorem bind_some {α β:Type} {x:Option α} {f:α→Option β} {r:β} (h:x.bind f=some r):∃ a,x=some a∧f a=some r:=Option.bind_eq_some_iff.1 h
inductive Ty (α β:Type) where
 | done (a:α)
 | go (b:β)
inductive Step (α β:Type) where
 | next (a:α)
 | stop (b:β)
section
variable {Tag:Type} {T:Tag→Type} {V:V6 T} {P:Program} {n m:Nat} {Γ:Ue} {S:St T} {Q:Exit→St T→Prop}
theorem T8 {c:Code} {Q':Exit→St T→Prop} (h:Uc V P n m Γ c Q' S) (hq:∀ e S',Q' e S'→Q e S'):Uc V P n m Γ c Q S :=
 fun Z ρ a w ha=>Code.wp_mono (fun e a' w' ⟨S',Z',ρ',h1,h2⟩=>⟨S',Z',ρ',hq e S' h1,h2⟩) (h Z ρ a w ha)
end
end Go.Proofs.YtdgejpgbppfhmaaGreatDoor.Eng
namespace Go.Proofs.YtdgejpgbppfhmaaGreatDoor.Eng
open Go.RowKit (Below)
section
variable {Tag:Type} {T:Tag→Type} {V:V6 T} {P:Program} {n m:Nat} {Γ:Ue} {S:St T} {Q:Exit→St T→Prop}
variable {Z:Nat→Prop} {ρ:Nat→Option (Nat×Nat×Nat)} {a:Act} {w:World}
theorem Ul.look (h:Ul V n m Γ S Z ρ a w) {t:Nat} {r:AV T} (hr:RA V.E w Z ρ r (a.tmps.getD t undef)):Ul V n m Γ (S.put (some t) r) Z ρ a w :=
 { h with
  tmps:=fun s v hv=>by
   simp only [St.put] at hv;rw [T6] at hv;by_cases hs:s=t
   ·subst hs; rw [if_pos rfl] at hv; cases hv; exact hr
   ·rw [if_neg hs,Uj,if_neg hs] at hv; exact h.tmps s v hv }
end
def Ub {α β γ:Type} (o:Option (Ty α β)) (d:α→γ) (f:β→Option γ):Option γ :=
 match o with
 | none=>none
 | some (.done a)=>some (d a)
 | some (.go x)=>f x
theorem T7 {α β γ:Type} {o:Option (Ty α β)} {d:α→γ} {f:β→Option γ} {r:γ} (h:Ub o d f=some r):∃ p,o=some p∧((∃ a,p=.done a∧d a=r)∨∃ x,p=.go x∧f x=some r):=by
 unfold Ub at h;split at h
 ·cases h
 ·rename_i a; cases h; exact ⟨_,rfl,.inl ⟨a,rfl,rfl⟩⟩
 ·rename_i x; exact ⟨_,rfl,.inr ⟨x,rfl,h⟩⟩
end Go.Proofs.YtdgejpgbppfhmaaGreatDoor.Eng
namespace Go.Proofs.YtdgejpgbppfhmaaGreatDoor.Eng
open Go.RowKit (Below)
section
variable {Tag:Type} {T:Tag→Type} {V:V6 T}
variable {P:Program} {n m:Nat} {Γ:Ue} {S:St T} {Z:Nat→Prop} {ρ:Nat→Option (Nat×Nat×Nat)} {a:Act} {w:World} {Q:Exit→St T→Prop}
def T2 (P:Program) (V:V6 T) (fn:Func) (r:AV T) (H':List (Nat×T9 T)) (e:Exit) (S:St T):Prop :=
 (e=.normal∨e=.ret)∧∃ x,W8 V.E P S fn=some x∧coA x r=r∧(S.keep [] (H'.map (·.1))).co ⟨[],H'⟩=⟨[],H'⟩
theorem Ac7 {f:FuncId} {fn:Func} {c:Code} {args:List (AV T)} {H:List (Nat×T9 T)} {fx:List Nat} {r:AV T} {H':List (Nat×T9 T)} (hf:P.funcs[f]? = some fn) (hb:fn.body=some c) (hcal:U7 P f=true) (hn:fn.ntmps=n) (hle:Nat.ble args.length n=true)
  (hids:(H.all (fun p=>Nat.blt p.1 100) && fx.all (fun i=>Nat.blt i m))=true)
  (h:∀ Γ:Ue,Uc V P n m Γ c (T2 P V fn r H') ⟨T0 0 args,H⟩):T1 V P f args H fx r H':=by
 refine ⟨hcal,fun w Z ρ vs hZ hsz hargs hH=>?_⟩;simp only [Bool.and_eq_true,List.all_eq_true] at hids
 let Γ:Ue:={ w0:=w,Z0:=Z,D:=fun id b=>id < 100∧∃ blk c,look id H=some blk∧ρ id=some (b,c),st:=fx.map fun i=>(i,ρ i) }
 refine calls_of_wp hf hb ?_;have ha:Ul V n m Γ ⟨T0 0 args,H⟩ Z ρ { tmps:=vs++Array.replicate (fn.ntmps - vs.size) undef,defers:=[] } w:={
  defers:=rfl
  size:=by have:=Nat.le_of_ble_eq_true hle; simp [hn]; omega
  tmps:=fun t v hv=>by
   obtain ⟨_,hv⟩:=Ww args 0 t v hv;simp only [Nat.sub_zero] at hv;have ht:t < vs.size:=by rw [hsz]; exact (List.getElem?_eq_some_iff.1 hv).1
   have:=hargs t v vs[t] hv (by simp [ht])
   have e:(vs++Array.replicate (fn.ntmps - vs.size) undef).getD t undef=vs[t]:=by
    rw [Array.getD_eq_getD_getElem?,Array.getElem?_append_left ht]; simp [ht]
   rw [e]; exact this
  os:=rfl
  tape:=rfl
  output:=rfl
  hsize:=Nat.le_refl _
  old:=fun _ _ _=>rfl
  stm:=fun p hp=>by
   obtain ⟨i,hi,rfl⟩:=List.mem_map.1 hp
   have:=hids.2 i hi
   exact Nat.le_of_ble_eq_true this
  dlt:=fun _ _ h=>h.1
  st:=fun p hp=>by
   obtain ⟨i,hi,rfl⟩:=List.mem_map.1 hp;rfl
  Z0:=fun _ h=>h
  Zold:=fun _ h _=>h
  Zlt:=hZ.lt
  glb:=hZ.glb
  own:=fun id blk b c hl hr=>by
   obtain ⟨h1,h2⟩:=hH.own id blk b c hl hr
   have:=hids.1 (id,blk) (Wn hl)
   exact ⟨h1,h2,.inr ⟨Nat.le_of_ble_eq_true this,blk,c,hl,hr⟩⟩
  inj:=hH.inj
  blk:=hH.blk }
 refine Code.wp_mono (fun e a' w' hq=>?_) (h Γ Z ρ _ w ha);obtain ⟨S',Z',ρ',⟨he,x,h1,h2,h3⟩,ha'⟩:=hq;obtain ⟨v,e1,e2⟩:=Y5 h1 ha';have e3:=Xh (y:=r) e2;rw [h2] at e3;have hB:=(ha'.keep [] (H'.map (·.1))).co V ⟨[],H'⟩;rw [h3] at hB;have key:∃ v,(results fn a'.tmps).run P w'=.ok v w'∧(∃ v2 Z2 ρ2,Ending.returned v=.returned v2∧Afc V.E w w' Z Z2 ρ ρ2 H H' fx∧RA V.E w' Z2 ρ2 r v2):=by
  refine ⟨v,e1,v,Z',ρ',rfl,⟨⟨ha'.os,ha'.tape,ha'.output,ha'.hsize,fun b hb hn=>ha'.old b hb fun id hd=>hn ?_,fun b hb=>ha'.Z0 b hb,fun b hb=>?_⟩,fun id hid=>?_,⟨fun id blk b c hl hr=>?_,hB.inj,hB.blk⟩,fun id blk b c hl hr=>?_⟩,e3⟩
  ·obtain ⟨_,blk,c,h4,h5⟩:=hd;exact ⟨id,blk,c,h4,h5⟩
  ·rcases Nat.lt_or_ge b w.heap.size with hlt | hge
   ·exact .inl (ha'.Zold b hb hlt)
   ·exact .inr ⟨hge,ha'.Zlt b hb⟩
  ·exact ha'.st (id,ρ id) (List.mem_map.2 ⟨id,hid,rfl⟩)
  ·obtain ⟨g1,g2,_⟩:=hB.own id blk b c hl hr;exact ⟨g1,g2⟩
  ·rcases (hB.own id blk b c hl hr).2.2 with g |⟨_,blk0,c0,g1,g2⟩
   ·exact .inl g
   ·exact .inr ⟨blk0,c0,g1,g2⟩
 rcases he with rfl | rfl
 ·exact ⟨ha'.defers,key⟩
 ·exact ⟨ha'.defers,key⟩
theorem T1.pcall {f:FuncId} {args:List (AV T)} {r:AV T} (h:T1 V P f args [] [] r []) (hr:r.clean=true):Tz V P f args r:=by
 refine ⟨h.1,fun w Z vs hZ hsz hargs=>(h.2 w Z (fun _=>none) vs hZ hsz hargs ⟨fun id blk b c hl=>(by cases hl),fun id id' blk blk' b c c' hl=>(by cases hl),fun id blk hl=>(by cases hl)⟩).mono fun e w' he=>?_⟩;obtain ⟨v,Z',ρ',rfl,hp,hra⟩:=he;refine ⟨v,Z',rfl,⟨⟨hp.onto.os,hp.onto.tape,hp.onto.output,hp.onto.size,fun k hk=>hp.onto.block k hk fun ⟨_,_,_,h,_⟩=>by cases h⟩,hp.onto.sub,hp.onto.fresh⟩,?_⟩;exact hra.mono V.E (fun _ h=>h) (fun _ _=>rfl) fun id hid=>by rw [AV.clean_names hr id] at hid; cases hid
def St.ren (σ:List (Nat×Nat)) (S:St T):St T:=⟨S.tmps.map fun p=>(p.1,p.2.ren fun i=>(look i σ).getD i),Afo (fun i=>(look i σ).getD i) S.heap⟩
def Aec (m:Nat) (σ:List (Nat×Nat)) (S:St T):Bool :=
 Vi (σ.map (·.1)) && Vi (σ.map (·.2)) && Nat.ble m 100 && σ.all (fun p=>Nat.beq p.1 p.2 ||(Nat.ble 100 p.1 && Nat.ble 100 p.2)) &&
 S.tmps.all (fun p=>p.2.inB fun i=>Uf i (σ.map (·.1))) && S.heap.all (fun p=>Uf p.1 (σ.map (·.1)) && p.2.inB fun i=>Uf i (σ.map (·.1))) && Vi (S.heap.map (·.1))
theorem Ul.ren (ha:Ul V n m Γ S Z ρ a w) {σ:List (Nat×Nat)} (hok:Aec m σ S=true):∃ ρ',Ul V n m Γ (S.ren σ) Z ρ' a w:=by
 unfold Aec at hok;simp only [Bool.and_eq_true,List.all_eq_true,Bool.or_eq_true] at hok;obtain ⟨⟨⟨⟨⟨⟨k1,k2⟩,k3⟩,k4⟩,k5⟩,k6⟩,k7⟩:=hok
 let e:Ut T:={ hids:=[],fx:=[],r:=.any,H':=[],σ:=σ }
 have hfdef:∀ i,e.f i=(Eng.look i σ).getD i:=fun i=>rfl
 let ρ2:Nat→Option (Nat×Nat×Nat):=fun j=>match inv j σ with | some i=>ρ i | none=>ρ j
 have hρf:∀ i,Uf i (σ.map (·.1))=true→ρ2 (e.f i)=ρ i:=fun i hi=>by
  show (match inv (e.f i) σ with | some i=>ρ i | none=>ρ (e.f i))=ρ i
  have:=Ut.inv_f (e:=e) k1 k2 hi
  rw [show inv (e.f i) σ=some i from this]
 have hlook:∀ j blk,Eng.look j (S.ren σ).heap=some blk→∃ i b0,Eng.look i S.heap=some b0∧Uf i (σ.map (·.1))=true∧b0.inB (fun i=>Uf i (σ.map (·.1)))=true∧e.f i=j∧blk=b0.ren e.f:=fun j blk hl=>by
  obtain ⟨i,b0,h1,h2,h3⟩:=Aa5 (f:=e.f) (H:=S.heap) hl;have h4:=k6 (i,b0) h1;exact ⟨i,b0,Ya (Vz k7) h1,h4.1,h4.2,h2,h3⟩
 have hge:∀ i,Uf i (σ.map (·.1))=true→e.f i=i∨(100≤i∧100≤e.f i):=fun i hi=>by
  obtain ⟨⟨i',j⟩,hm,rfl⟩:=List.mem_map.1 (U9 hi);have h1:=Ut.f_mem (e:=e) k1 hm;rcases k4 _ hm with h | h
  ·left; rw [h1]; exact (Nat.eq_of_beq_eq_true h).symm
  ·right; rw [h1]; exact ⟨Nat.le_of_ble_eq_true h.1,Nat.le_of_ble_eq_true h.2⟩
 refine ⟨ρ2,{ ha with
  tmps:=fun t x hx=>by
   simp only [St.ren] at hx;rw [Vc,Option.map_eq_some_iff] at hx;obtain ⟨x0,h1,rfl⟩:=hx;have h2:=k5 (t,x0) (Wn h1);exact RA.ren (ρ:=ρ2) (f:=e.f) ((ha.tmps t x0 h1).mono V.E (fun _ h=>h) (fun _ _=>rfl) fun id hid=>hρf id (AV.inB_names h2 hid))
  st:=fun p hp=>by
   have h1:=ha.stm p hp;have h2:=Nat.le_of_ble_eq_true k3;rw [← ha.st p hp];show (match inv p.1 σ with | some i=>ρ i | none=>ρ p.1)=ρ p.1;cases hi:inv p.1 σ with
   | none=>rfl
   | some i =>
    have hm:=Wp hi;rcases k4 _ hm with h | h
    ·exact congrArg ρ (Nat.eq_of_beq_eq_true h)
    ·have:=Nat.le_of_ble_eq_true h.2; simp only at this; omega
  own:=fun j blk b c hl hr=>by
   obtain ⟨i,b0,h1,h2,h3,rfl,rfl⟩:=hlook j blk hl;rw [hρf i h2] at hr;obtain ⟨g1,g2,g3⟩:=ha.own i b0 b c h1 hr;refine ⟨g1,g2,?_⟩;rcases g3 with g3 | g3
   ·exact .inl g3
   ·have:=ha.dlt _ _ g3
    rcases hge i h2 with h | h
    ·rw [h]; exact .inr g3
    ·omega
  inj:=fun j j' blk blk' b c c' hl hl' hr hr'=>by
   obtain ⟨i,b0,h1,h2,h3,rfl,rfl⟩:=hlook j blk hl;obtain ⟨i',b0',h1',h2',h3',rfl,rfl⟩:=hlook j' blk' hl';rw [hρf i h2] at hr;rw [hρf i' h2'] at hr';rw [ha.inj i i' b0 b0' b c c' h1 h1' hr hr']
  blk:=fun j blk hl=>by
   obtain ⟨i,b0,h1,h2,h3,rfl,rfl⟩:=hlook j blk hl;rw [hρf i h2];exact BR.ren (ρ:=ρ2) (f:=e.f) (BR.mono (fun _ h=>h) (fun _ _=>rfl) (fun _ _ _=>rfl) (ha.blk i b0 h1) fun id hid=>hρf id (T9.inB_names h3 hid)) }⟩
end
end Go.Proofs.YtdgejpgbppfhmaaGreatDoor.Eng
namespace Go.Proofs.YtdgejpgbppfhmaaGreatDoor.Eng
open Go.RowKit (Below)
section
variable {Tag:Type} {T:Tag→Type} {V:V6 T}
variable {P:Program} {n m:Nat} {Γ:Ue} {S:St T} {Z:Nat→Prop} {ρ:Nat→Option (Nat×Nat×Nat)} {a:Act} {w:World} {Q:Exit→St T→Prop}
def Tn (V:V6 T) (n m:Nat) (Γ:Ue) (S S':St T):Prop:=∀ Z ρ a w,Ul V n m Γ S Z ρ a w→∃ Z' ρ',Ul V n m Γ S' Z' ρ' a w
theorem Tn.refl:Tn V n m Γ S S:=fun Z ρ a w h=>⟨Z,ρ,h⟩
theorem Tn.trans {S1 S2:St T} (h:Tn V n m Γ S S1) (h':Tn V n m Γ S1 S2):Tn V n m Γ S S2:=fun Z ρ a w ha=>by
 obtain ⟨Z1,ρ1,h1⟩:=h Z ρ a w ha;exact h' Z1 ρ1 a w h1
theorem Tn.keep (ts ids:List Nat) {S':St T} (hk:(S.keep ts ids).co S'=S'):Tn V n m Γ S S':=fun Z ρ a w ha=>⟨Z,ρ,hk ▸ (ha.keep ts ids).co V S'⟩
theorem Tn.ren (σ:List (Nat×Nat)) {S':St T} (hok:Aec m σ S=true) (hk:S.ren σ=S'):Tn V n m Γ S S':=fun Z ρ a w ha=>by
 obtain ⟨ρ',h⟩:=ha.ren hok;exact ⟨Z,ρ',hk ▸ h⟩
theorem Tn.frz (id:Nat) {blk0:T9 T} (hl:Eng.look id S.heap=some blk0) (hid:Nat.ble 100 id=true) {S':St T} (hk:S.frz V.E id blk0=S'):Tn V n m Γ S S':=fun Z ρ a w ha =>
 ⟨_,ρ,hk ▸ ha.frz hl (Nat.le_of_ble_eq_true hid)⟩
theorem Tn.nilown (t id:Nat) (tg:Tag) (hl:Eng.look t S.tmps=some (.cv (.lit (.slice none 0 0)))) (hok:(Nat.ble m id && !S.named id)=true) {S':St T} (hk:(S.new id (.lst tg [])).put (some t) (.cv (.own tg id))=S') :
  Tn V n m Γ S S':=by
 subst hk;intro Z ρ a w ha;simp only [Bool.and_eq_true,Bool.not_eq_true'] at hok;have hx:=ha.tmps _ _ hl;generalize hv:a.tmps.getD t undef=v at hx;cases hx with | cv hx =>
 cases hx with | pure hx =>
 cases hx with
 | lit =>
  have hn:=ha.claim V (id:=id) (bc:=none) (Nat.le_of_ble_eq_true hok.1) hok.2 (fun _ _ h=>by cases h) (B:=.lst tg []) rfl;exact ⟨Z,_,(hn.look (by rw [hv]; exact .cv (.ownv (by unfold Uy; rw [if_pos rfl]))))⟩
theorem Tn.nilownc (b pos id:Nat) (tg:Tag) (cs:List (CV T)) (hl:Eng.look b S.heap=some (.raw cs)) (hc:cs[pos]? = some (.lit (.slice none 0 0))) (hne:Nat.beq b id=false) (hok:(Nat.ble m id && !S.named id)=true) {S':St T} (hk:⟨S.tmps,(id,.lst tg []) ::(b,.raw (cs.set pos (.own tg id))) :: del id (del b S.heap)⟩=S') :
  Tn V n m Γ S S':=by
 subst hk;intro Z ρ a w ha;simp only [Bool.and_eq_true,Bool.not_eq_true'] at hok;have hne':b≠id:=fun e=>by subst e; simp at hne
 have hn:=ha.claim V (id:=id) (bc:=none) (Nat.le_of_ble_eq_true hok.1) hok.2 (fun _ _ h=>by cases h) (B:=.lst tg []) rfl;have hlook:∀ i blk,Eng.look i ((id,T9.lst tg []) ::(b,.raw (cs.set pos (.own tg id))) :: del id (del b S.heap))=some blk→(i=id∧blk=.lst tg [])∨(i≠id∧i=b∧blk=.raw (cs.set pos (.own tg id)))∨(i≠id∧i≠b∧Eng.look i S.heap=some blk):=fun i blk hl=>by
  rw [T6] at hl;by_cases hi:i=id
  ·rw [if_pos hi] at hl; cases hl; exact .inl ⟨hi,rfl⟩
  ·rw [if_neg hi,T6] at hl;by_cases hb:i=b
   ·rw [if_pos hb] at hl; cases hl; exact .inr (.inl ⟨hi,hb,rfl⟩)
   ·rw [if_neg hb,Uj,if_neg hi,Uj,if_neg hb] at hl; exact .inr (.inr ⟨hi,hb,hl⟩)
 have hold:∀ i blk,i≠id→Eng.look i S.heap=some blk→Eng.look i (S.new id (.lst tg [])).heap=some blk:=fun i blk hi hl=>by
  simp only [St.new]; rw [T6,if_neg hi,Uj,if_neg hi]; exact hl
 have hnew:Eng.look id (S.new id (.lst tg [])).heap=some (.lst tg []):=by simp only [St.new]; rw [T6,if_pos rfl]
 have hrel:∀ i blk,Eng.look i ((id,T9.lst tg []) ::(b,.raw (cs.set pos (.own tg id))) :: del id (del b S.heap))=some blk→∃ blk0,Eng.look i (S.new id (.lst tg [])).heap=some blk0:=fun i blk hl'=>by
  rcases hlook i blk hl' with ⟨rfl,rfl⟩ |⟨hi,rfl,rfl⟩ |⟨hi,hb,hl1⟩
  ·exact ⟨_,hnew⟩
  ·exact ⟨_,hold _ _ hi hl⟩
  ·exact ⟨_,hold _ _ hi hl1⟩
 exact ⟨Z,_,{ hn with
  own:=fun i blk b1 c1 hl' hr=>by
   obtain ⟨blk0,h0⟩:=hrel i blk hl';exact hn.own i blk0 b1 c1 h0 hr
  inj:=fun i i' blk blk' b1 c1 c2 hl1 hl2 hr hr'=>by
   obtain ⟨blk0,h0⟩:=hrel i blk hl1;obtain ⟨blk1,h1⟩:=hrel i' blk' hl2;exact hn.inj i i' blk0 blk1 b1 c1 c2 h0 h1 hr hr'
  blk:=fun i blk hl'=>by
   rcases hlook i blk hl' with ⟨rfl,rfl⟩ |⟨hi,rfl,rfl⟩ |⟨hi,hb,hl1⟩
   ·exact hn.blk _ _ hnew
   ·have h0:=hn.blk _ _ (hold _ _ hi hl);cases hbc:Uy ρ id none i with
    | none=>rw [hbc] at h0; exact h0.elim
    | some p =>
     rw [hbc] at h0;obtain ⟨bb,cc⟩:=p;obtain ⟨arr,e,g1,g2,g3⟩:=h0;refine ⟨arr,e,g1,by simpa using g2,fun j c0 u hj hu=>?_⟩;by_cases hjp:j=pos
     ·subst hjp;have hlt:j < cs.length:=(List.getElem?_eq_some_iff.1 hc).1;rw [List.getElem?_set] at hj;simp [hlt] at hj;subst hj
      have:=g3 j _ u hc hu
      cases this with | pure this=>cases this with
      | lit=>exact .ownv (by unfold Uy; rw [if_pos rfl])
     ·rw [List.getElem?_set_ne (fun e=>hjp e.symm)] at hj;exact g3 j c0 u hj hu
   ·exact hn.blk _ _ (hold _ _ hi hl1) }⟩
theorem Tr {c:Code} {S':St T} (ht:Tn V n m Γ S S') (h:Uc V P n m Γ c Q S'):Uc V P n m Γ c Q S:=fun Z ρ a w ha=>by
 obtain ⟨Z',ρ',h'⟩:=ht Z ρ a w ha;exact h Z' ρ' a w h'
theorem Tw {c:Code} {S1 S':St T} (h:Uc V P n m Γ c (fun e S=>e=.normal∧S=S1) S) (ht:Tn V n m Γ S1 S') (hQ:Q .normal S'):Uc V P n m Γ c Q S:=fun Z ρ a w ha =>
 Code.wp_mono (fun e a' w' hq=>by
  obtain ⟨S2,Z2,ρ2,⟨rfl,rfl⟩,h2⟩:=hq;obtain ⟨Z',ρ',h'⟩:=ht Z2 ρ2 a' w' h2;exact ⟨S',Z',ρ',hQ,h'⟩) (h Z ρ a w ha)
theorem Tx {c:Code} {Q':Exit→St T→Prop} (h:Uc V P n m Γ c Q' S) (hq:∀ e S',Q' e S'→∃ S'',Tn V n m Γ S' S''∧Q e S''):Uc V P n m Γ c Q S:=fun Z ρ a w ha =>
 Code.wp_mono (fun e a' w' hq'=>by
  obtain ⟨S2,Z2,ρ2,h1,h2⟩:=hq';obtain ⟨S',ht,hQ⟩:=hq e S2 h1;obtain ⟨Z',ρ',h'⟩:=ht Z2 ρ2 a' w' h2;exact ⟨S',Z',ρ',hQ,h'⟩) (h Z ρ a w ha)
end
end Go.Proofs.YtdgejpgbppfhmaaGreatDoor.Eng
namespace Go.Proofs.YtdgejpgbppfhmaaGreatDoor.Eng
open Go.RowKit (Below)
open Go.ChangeShapes Go.WideShapes
section
variable {Tag:Type} {T:Tag→Type}
def Vg (V:V6 T) (P:Program) (t:TypeId) {α:Type} (c:T5 T α) (G:α→Prop):Prop :=
 ∀ (H:Type) (enc:TypeId×Value→H) (W:World) (spare:Nat→Bool) (held:Bool) (fuel:Nat) (cs:List Value) (x:DataW H×List MemPlace),
  DataW.trod enc P W 0 spare held fuel t cs=some x→(∀ n∈x.1.weights P t,n≤reachBytes)→∃ y,G y∧cs.length=c.sz∧∀ (j:Nat) k v,(c.k y)[j]? = some k→cs[j]? = some v→PR V.E W (fun b=>b < W.heap.size) k v
variable {V:V6 T} {P:Program} {t:TypeId}
theorem Aei {k:IntKind} (ht:P.underlying t=some (.int k)):Vg V P t (T5.int k) (fun n=>(Lit.int k n).wf=true):=by
 intro H enc W spare held fuel cs x h hwt;obtain ⟨n,rfl,_,hw⟩:=DataW.trod_int ht h;refine ⟨n,hw,rfl,fun j c v hc hv=>?_⟩
 match j with
 | 0=>simp [T5.int] at hc hv; subst hc; subst hv; exact .lit rfl
 | j+1=>simp [T5.int] at hc
theorem Aes (ht:P.underlying t=some .string):Vg V P t (T5.str) (fun l=>l.length≤reachBytes):=by
 intro H enc W spare held fuel cs x h hwt;obtain ⟨s,rfl,rfl,hl⟩:=DataW.trod_string ht h;refine ⟨s.data.toList,hwt _ (by simp [DataW.weights]),rfl,fun j c v hc hv=>?_⟩
 match j with
 | 0=>simp [T5.str] at hc hv; subst hc; subst hv; exact .str _
 | j+1=>simp [T5.str] at hc
theorem Ad9 {α:Type} (Q:Nat→α→Prop):∀ n,(∀ i,i < n→∃ x,Q i x)→∃ l:List α,l.length=n∧∀ (i:Nat) x,l[i]? = some x→Q i x
 | 0,_=>⟨[],rfl,fun i x h=>by simp at h⟩
 | n+1,h=>by
  obtain ⟨l,h1,h2⟩:=Ad9 Q n (fun i hi=>h i (by omega));obtain ⟨x,hx⟩:=h n (by omega);refine ⟨l++[x],by simp [h1],fun i y hy=>?_⟩;by_cases hi:i < l.length
  ·rw [List.getElem?_append_left hi] at hy; exact h2 i y hy
  ·rw [List.getElem?_append_right (by omega)] at hy
   have:i=n:=by
    have:=(List.getElem?_eq_some_iff.1 hy).1
    simp at this; omega
   subst this;rw [h1] at hy;simp at hy;subst hy;exact hx
theorem Xa {H:Type} {e:TypeId}:∀ (ds:List (DataW H)) (d:DataW H) (n:Nat),d∈ds→n∈d.weights P e→n∈DataW.weightsAll P e ds
 | [],d,n,h,_=>by cases h
 | x :: ds,d,n,h,hn=>by
  unfold DataW.weightsAll;rcases List.mem_cons.1 h with rfl | h
  ·exact List.mem_append_left _ hn
  ·exact List.mem_append_right _ (Xa ds d n h hn)
theorem W0 {H:Type}:∀ (ts:List TypeId) (ds:List (DataW H)) (i:Nat) (t:TypeId) (d:DataW H) (n:Nat),ts[i]? = some t→ds[i]? = some d→n∈d.weights P t→n∈DataW.weightsEach P ts ds
 | [],ds,i,t,d,n,h,_,_=>by simp at h
 | u :: ts,[],i,t,d,n,_,h,_=>by simp at h
 | u :: ts,x :: ds,i,t,d,n,ht,hd,hn=>by
  unfold DataW.weightsEach;cases i with
  | zero=>simp at ht hd; subst ht; subst hd; exact List.mem_append_left _ hn
  | succ i=>exact List.mem_append_right _ (W0 ts ds i t d n (by simpa using ht) (by simpa using hd) hn)
where cellsq {W:World} {a:Addr} {v:Value} (h:W.cell? a=some v):W.cells? 0 a 1=some [v]:=cells?_one (Nat.zero_le _) h
theorem Vg.agg {α:Type} {c:T5 T α} {G:α→Prop} (h:Vg V P t c G) {W:World} {us:Array Value} {H:Type} {enc:TypeId×Value→H} {spare:Nat→Bool} {held:Bool} {d:DataW H} {ps:List MemPlace} (hr:DataW.Trod enc P W 0 spare held t (.agg us) d ps) (hwt:∀ n∈d.weights P t,n≤reachBytes) :
  ∃ y,G y∧RA V.E W (fun b=>b < W.heap.size) (fun _=>none) (.agg (c.k y)) (.agg us):=by
 obtain ⟨fuel,hr⟩:=hr;obtain ⟨y,g1,g2,g3⟩:=h H enc W spare held fuel _ _ hr hwt;refine ⟨y,g1,.agg (by rw [c.klen]; simpa [Value.cells] using g2) fun i k v hk hv=>.pure (g3 i k v hk (by simpa [Value.cells] using hv))⟩
theorem Aaw {H:Type} {enc:TypeId×Value→H} {f:Func} {s:ChangeSpec} {apart fresh handsOn again:Bool} {W W':World} {args:Array Value} {v:Value} {ds gs:List (DataW H)} {before pa pv:List MemPlace}
  (hW:DataW.Whole enc P f.params.toList s.vars apart W args.toList ds gs before) (hb:Below W.heap.size W W')
  (hres:∀ (b:Nat) (sp:Nat→Bool) (hd:Bool),DataW.TrodAll enc P W' b sp hd f.resultTypes.toList (v.resultList f.resultTypes.size) (s.fn H (ds++gs)).results [])
  (hargs:∀ sp:Nat→Bool,(∀ p∈before,sp p.block=true)→DataW.TrodAll enc P W' 0 sp true f.params.toList args.toList (s.fn H (ds++gs)).args pa)
  (hvars:∀ sp:Nat→Bool,(∀ p∈before,sp p.block=true)→DataW.TrodVars enc P W' sp s.vars (s.fn H (ds++gs)).vars pv)
  (hps:before=pa++pv)
  (hok:∀ (j:Nat) (t:TypeId) (r:Value),f.resultTypes[j]? = some t→(v.resultList f.resultTypes.size)[j]? = some r→Value.okWide P W' .any 0 t r) :
  s.post enc P f apart fresh handsOn again W args v W':=by
 have hold:∀ p∈before,(fun b=>decide (b < W.heap.size)) p.block=true:=fun p hp=>by simpa using hW.lt p hp
 refine ⟨ds,gs,before,[],pa,pv,hW,hres _ _ _,hargs _ hold,hvars _ hold,hb.frame _,fun _=>?_⟩;have hlt:∀ p∈before,p.block < W.heap.size:=fun p hp=>by simpa using hW.lt p hp
 obtain ⟨_,_,_,_,_,hz,hn⟩:=hW;refine ⟨hok,_,_,([]++pa)++pv,⟨[]++pa,pv,trodAll_append (hargs _ (fun _ _=>rfl)) (hres _ _ _),hvars _ (fun _ _=>rfl),rfl,?_,?_⟩,?_⟩
 ·intro b off hp;have hp':MemPlace.cell b off∈before:=by rw [hps]; simpa using hp
  rw [hb.frozen (p:=⟨b,off,none⟩) (hlt _ hp')];exact hz b off hp'
 ·intro ha
  have:=hn ha
  rw [hps] at this;simpa using this
 ·intro p hp _;rw [hps];simpa using hp
theorem Aas {W:World} {r:Reach} {base:Nat} {v:Value} {fs:Array Field} (hd:P.underlying t=some (.struct fs)) (h:Value.okWide P W r base t v):∃ us,v=.agg us:=by
 unfold Value.okWide at h;rw [hd] at h;obtain ⟨us,h1,_⟩:=h;exact ⟨us,h1⟩
theorem Vg.agg' {α:Type} {c:T5 T α} {G:α→Prop} (h:Vg V P t c G) {W:World} {v:Value} {H:Type} {enc:TypeId×Value→H} {spare:Nat→Bool} {held:Bool} {d:DataW H} {ps:List MemPlace} {fs:Array Field} {r:Reach} {base:Nat}
  (hd:P.underlying t=some (.struct fs)) (hok:Value.okWide P W r base t v) (hr:DataW.Trod enc P W 0 spare held t v d ps) (hwt:∀ n∈d.weights P t,n≤reachBytes) :
  ∃ y,G y∧RA V.E W (fun b=>b < W.heap.size) (fun _=>none) (.agg (c.k y)) v:=by
 obtain ⟨us,rfl⟩:=Aas hd hok;exact h.agg hr hwt
theorem Ab5 {H:Type} {t:TypeId} {ts:List TypeId} {d:DataW H} {ds:List (DataW H)} (h:(DataW.weightsEach P (t :: ts) (d :: ds)).all (·≤reachBytes)=true) :
  (∀ n∈d.weights P t,n≤reachBytes)∧(DataW.weightsEach P ts ds).all (·≤reachBytes)=true:=by
 unfold DataW.weightsEach at h;rw [List.all_append,Bool.and_eq_true] at h;exact ⟨fun n hn=>by have:=List.all_eq_true.1 h.1 n hn; simpa using this,h.2⟩
def RAs (V:V6 T) (W:World) (xs:List (AV T)) (vs:List Value):Prop:=∀ (i:Nat) x v,xs[i]? = some x→vs[i]? = some v→RA V.E W (fun b=>b < W.heap.size) (fun _=>none) x v
theorem Af1 {W:World} {vs:List Value}:RAs V W [] vs:=fun i x v h=>by simp at h
theorem Afh {W:World} {x:AV T} {xs:List (AV T)} {v:Value} {vs:List Value} (h:RA V.E W (fun b=>b < W.heap.size) (fun _=>none) x v) (hs:RAs V W xs vs):RAs V W (x :: xs) (v :: vs):=fun i y u hy hu=>by
 cases i with
 | zero=>simp at hy hu; subst hy; subst hu; exact h
 | succ i=>exact hs i y u (by simpa using hy) (by simpa using hu)
theorem Xq {H:Type} {enc:TypeId×Value→H} (hl:laidOutB P=true) {W W':World} (hb:Below W.heap.size W W') {sp:Nat→Bool}:∀ (ts:List TypeId),ts.all (fun t=>P.readableRec t && decide (t < P.types.size))=true →
  ∀ (vs:List Value) (ds:List (DataW H)) (p:List MemPlace),DataW.TrodAll enc P W 0 (fun _=>true) true ts vs ds p→(∀ x∈p,x.block < W.heap.size)→(∀ x∈p,sp x.block=true)→DataW.TrodAll enc P W' 0 sp true ts vs ds p
 | [],_,vs,ds,p,h,_,_=>by
  obtain ⟨rfl,rfl,rfl⟩:=trodAll_nil h;rfl
 | t :: ts,hc,vs,ds,p,h,hlt,hsp=>by
  simp only [List.all_cons,Bool.and_eq_true,decide_eq_true_eq] at hc;obtain ⟨v,vs',d,ds',p1,p2,rfl,rfl,rfl,h1,h2⟩:=trodAll_cons h;refine ⟨p1,p2,WideElems.Trod_stays hl hc.1.1 hc.1.2 h1 (fun x hx=>hb.same (hlt x (by simp [hx]))) (fun x hx=>hsp x (by simp [hx])),Xq hl hb ts hc.2 _ _ _ h2 (fun x hx=>hlt x (by simp [hx])) (fun x hx=>hsp x (by simp [hx])),rfl⟩
theorem Aeh {H:Type} {enc:TypeId×Value→H} {f:Func} {s:ChangeSpec} {apart fresh handsOn again:Bool} {W W':World} {args:Array Value} {ds:List (DataW H)} {before:List MemPlace} {tb:TypeId}
  (hW:DataW.Whole enc P f.params.toList s.vars apart W args.toList ds [] before) (hb:Below W.heap.size W W') (hvars:s.vars=[]) (hl:laidOutB P=true)
  (hp:f.params.toList.all (fun t=>P.readableRec t && decide (t < P.types.size))=true) (hr:f.resultTypes = #[tb]) (htb:P.underlying tb=some .bool)
  (hs:s.fn H (ds++[]) = { results:=[.lit (.bool true)],args:=ds }) :
  s.post enc P f apart fresh handsOn again W args (.bool true) W':=by
 have hlt:∀ p∈before,p.block < W.heap.size:=fun p hp=>by simpa using hW.lt p hp
 have hW2:=hW;obtain ⟨p,q,hA,hV,rfl,_,_⟩:=hW2;rw [hvars] at hV;obtain ⟨_,rfl⟩:=trodVars_none hV;refine Aaw (pa:=p) (pv:=[]) hW hb (fun b sp hd=>?_) (fun sp hsp=>?_) (fun sp hsp=>?_) rfl ?_
 ·rw [hr,hs];exact ⟨[],[],⟨1,by show DataW.trod enc P W' b sp hd 1 tb [.bool true]=_; unfold DataW.trod; rw [htb]⟩,rfl,rfl⟩
 ·rw [hs];exact Xq hl hb _ hp _ _ _ hA (fun x hx=>hlt x (by simp [hx])) (fun x hx=>hsp x (by simp [hx]))
 ·rw [hs,hvars]; rfl
 ·exact Go.RowKit.ok_one hr rfl (by unfold Value.okWide; rw [htb]; unfold Cell.okWide Cell.ok; rw [htb]; trivial)
end
end Go.Proofs.YtdgejpgbppfhmaaGreatDoor.Eng
namespace Go.Proofs.YtdgejpgbppfhmaaGreatDoor.Eng
theorem Agd (n:Int):IntKind.i64.wrap n=(n+9223372036854775808) % 18446744073709551616 - 9223372036854775808:=by
 simp [IntKind.wrap,IntKind.bits,IntKind.signed];split <;> omega
theorem wrap_small {x:Int} (h0:-9223372036854775808≤x) (h1:x≤9223372036854775807):IntKind.i64.wrap x=x:=by
 rw [Agd]; omega
section
variable {Tag:Type} {T:Tag→Type}
abbrev CV.I (n:Int):CV T:=.lit (.int .i64 n)
abbrev CV.B (b:Bool):CV T:=.lit (.bool b)
abbrev CV.N:CV T:=.lit (.slice none 0 0)
abbrev CV.P (id:Nat):CV T:=.ptr id 0
abbrev AV.I (n:Int):AV T:=.cv (.lit (.int .i64 n))
abbrev AV.B (b:Bool):AV T:=.cv (.lit (.bool b))
abbrev AV.N:AV T:=.cv (.lit (.slice none 0 0))
abbrev AV.P (id:Nat):AV T:=.cv (.ptr id 0)
end
section
variable {Tag:Type} {T:Tag→Type} {V:V6 T} {P:Program} {n m:Nat} {Γ:Ue} {S:St T} {Q:Exit→St T→Prop}
def St.ts (S:St T):List Nat:=S.tmps.map (·.1)
def St.ids (S:St T):List Nat:=S.heap.map (·.1)
theorem ar (L:V.E.Law V.isB V.toB) {id:Nat} {ops:Array Oper} (base:Nat) (decs:List (Nat×Bool)) (oras:List (Nat×AV T)) (effs:List (Nat×Ut T)) {cs:List Prop} {S':St T} (hcs:Us cs) (hQ:Q .normal S')
  (h:(U3 V P n m ops base decs oras effs 0 ops.toList S).map (fun p=>(p.1,(p.2.keep S'.ts S'.ids).co S'))=some (cs,S'):=by kernel_rfl):Uc V P n m Γ (.region id ops false) Q S:=U2 L base decs oras effs S'.ts S'.ids h hcs hQ
theorem Vd (L:V.E.Law V.isB V.toB) {id:Nat} {ops:Array Oper} (base:Nat) (decs:List (Nat×Bool)) (oras:List (Nat×AV T)) (effs:List (Nat×Ut T)) {S':St T} (hQ:Q .normal S')
  (h:(U3 V P n m ops base decs oras effs 0 ops.toList S).map (fun p=>(p.1,(p.2.keep S'.ts S'.ids).co S'))=some ([],S'):=by kernel_rfl):Uc V P n m Γ (.region id ops false) Q S:=U2 L base decs oras effs S'.ts S'.ids h trivial hQ
theorem kp {c:Code} {S':St T} (h:Uc V P n m Γ c Q S') (hk:(S.keep S'.ts S'.ids).co S'=S':=by kernel_rfl):Uc V P n m Γ c Q S:=Ae6 hk h
theorem sk {S':St T} (h:Q .normal S') (hk:(S.keep S'.ts S'.ids).co S'=S':=by kernel_rfl):Uc V P n m Γ .skip Q S:=Zs S'.ts S'.ids hk h
theorem ex {S':St T} {id:Nat} (h:Q (.exit id) S') (hk:(S.keep S'.ts S'.ids).co S'=S':=by kernel_rfl):Uc V P n m Γ (.exit id) Q S:=Afn S'.ts S'.ids hk h
theorem tt {c:Operand} {x y:Code} {b:Bool} (hb:b=true) (h:Uc V P n m Γ x Q S) (hc:S.get c=some (.cv (.lit (.bool b))):=by kernel_rfl):Uc V P n m Γ (.cond c x y) Q S:=Yc hc hb h
theorem ff {c:Operand} {x y:Code} {b:Bool} (hb:b=false) (h:Uc V P n m Γ y Q S) (hc:S.get c=some (.cv (.lit (.bool b))):=by kernel_rfl):Uc V P n m Γ (.cond c x y) Q S:=V4 hc hb h
theorem tT {c:Operand} {x y:Code} {p:Prop} [d:Decidable p] (hb:p) (h:Uc V P n m Γ x Q S) (hc:S.get c=some (.cv (.lit (.bool (decide p)))):=by kernel_rfl):Uc V P n m Γ (.cond c x y) Q S:=Yc hc (decide_eq_true hb) h
theorem fF {c:Operand} {x y:Code} {p:Prop} [d:Decidable p] (hb:¬ p) (h:Uc V P n m Γ y Q S) (hc:S.get c=some (.cv (.lit (.bool (decide p)))):=by kernel_rfl):Uc V P n m Γ (.cond c x y) Q S:=V4 hc (decide_eq_false hb) h
theorem fN {c:Operand} {x y:Code} {b:Bool} (hb:¬ b=true) (h:Uc V P n m Γ y Q S) (hc:S.get c=some (.cv (.lit (.bool b))):=by kernel_rfl):Uc V P n m Γ (.cond c x y) Q S:=V4 hc (eq_false_of_ne_true hb) h
theorem eo {f:FuncId} {fn:Func} {c:Code} {args:List (AV T)} {H:List (Nat×T9 T)} {fx:List Nat} {r:AV T} {H':List (Nat×T9 T)} (h:∀ Γ:Ue,Uc V P n m Γ c (T2 P V fn r H') ⟨T0 0 args,H⟩) (hf:P.funcs[f]? = some fn:=by kernel_rfl) (hb:fn.body=some c:=by kernel_rfl) (hcal:U7 P f=true:=by kernel_rfl) (hn:fn.ntmps=n:=by rfl) (hle:Nat.ble args.length n=true:=by kernel_rfl)
  (hids:(H.all (fun p=>Nat.blt p.1 100) && fx.all (fun i=>Nat.blt i m))=true:=by kernel_rfl):T1 V P f args H fx r H':=Ac7 hf hb hcal hn hle hids h
theorem Tn.kp {S':St T} (hk:(S.keep S'.ts S'.ids).co S'=S':=by kernel_rfl):Tn V n m Γ S S':=Tn.keep S'.ts S'.ids hk
end
structure Le {α:Type} (a b:Option α):Prop where
 le:∀ r,a=some r→b=some r
theorem Le.refl {α:Type} (a:Option α):Le a a:=⟨fun _ h=>h⟩
theorem Le.none {α:Type} (b:Option α):Le none b:=⟨fun _ h=>by cases h⟩
theorem Le.at {α:Type} {a b:Option α} {r:α} (h:Le a b) (e:a=some r):b=some r:=h.le r e
end Go.Proofs.YtdgejpgbppfhmaaGreatDoor.Eng
namespace Go.Proofs.YtdgejpgbppfhmaaGreatDoor.Eng
open Go.RowKit (Below)
open Go.ChangeMaps (setBlock)
section
variable {Tag:Type} {T:Tag→Type} {V:V6 T} {P:Program} {n m:Nat} {Γ:Ue} {S:St T} {Q:Exit→St T→Prop}
end
end Go.Proofs.YtdgejpgbppfhmaaGreatDoor.Eng
namespace Go.Proofs.YtdgejpgbppfhmaaGreatDoor.Eng
open Go.RowKit (Below)
section
variable {Tag:Type} {T:Tag→Type}
variable {V:V6 T} {P:Program}
end
end Go.Proofs.YtdgejpgbppfhmaaGreatDoor.Eng
