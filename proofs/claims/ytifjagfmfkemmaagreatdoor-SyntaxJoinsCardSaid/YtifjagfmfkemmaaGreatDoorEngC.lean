import Derived.Test.YtifjagfmfkemmaaGreatDoorEngB
import Derived.ProofKit
import Derived.Deep.Slices
import Derived.DataElems
import Derived.SizedLaws
set_option linter.unusedVariables false
set_option linter.unusedSimpArgs false
namespace Go.Proofs.YtifjagfmfkemmaaGreatDoor.Eng
open Go.RowKit (Below)
structure T6 {Tag:Type} (T:Tag→Type) (α:Type) where
 sz:Nat
 k:α→List (CV T)
 p:List (CV T)→Option (List Prop×α×List (CV T))
 klen:∀ x,(k x).length=sz
 ok:∀ cs ps x rest,p cs=some (ps,x,rest)→Us ps→∀ (j:Nat),j < sz→∀ c,(k x)[j]? = some c→∃ d,cs[j]? = some d∧∀ (E:Uv T) w Z ρ v,RC E w Z ρ d v→PR E w Z c v
 rest:∀ cs ps x rest,p cs=some (ps,x,rest)→rest=cs.drop sz
section
variable {Tag:Type} {T:Tag→Type}
def Af0:CV T→Bool
 | .lit _ | .str _ | .any | .ro _ _=>true
 | _=>false
theorem Yh {E:Uv T} {w:World} {Z:Nat→Prop} {ρ:Nat→Option (Nat×Nat×Nat)} {c:CV T} {v:Value} (hc:Af0 c=true) (h:RC E w Z ρ c v):PR E w Z c v:=by
 cases h with
 | pure h=>exact h
 | _=>cases hc
def T6.int (k:IntKind):T6 T Int where
 sz:=1
 k n:=[.lit (.int k n)]
 p
  | .lit (.int k' n) :: rest=>match decEq k' k with | .isTrue _=>some ([],n,rest) | .isFalse _=>none
  | _=>none
 klen _:=rfl
 ok:=by
  intro cs ps x rest h _ j hj c hc
  have:j=0:=by omega
  subst this;split at h
  ·split at h
   ·rename_i hk _;cases h;subst hk;simp at hc;subst hc;exact ⟨_,rfl,fun E w Z ρ v h=>Yh rfl h⟩
   ·cases h
  ·cases h
 rest:=by
  intro cs ps x rest h;split at h
  ·split at h
   ·cases h; rfl
   ·cases h
  ·cases h
def T6.byte:T6 T UInt8 where
 sz:=1
 k b:=[.lit (.int .u8 b.toNat)]
 p
  | .lit (.int .u8 n) :: rest=>some ([0≤n,n < 256],UInt8.ofNat n.toNat,rest)
  | _=>none
 klen _:=rfl
 ok:=by
  intro cs ps x rest h hps j hj c hc
  have:j=0:=by omega
  subst this;split at h
  ·rename_i n _;cases h;obtain ⟨h0,h1⟩:=hps;replace h1:n < 256:=h1;simp at hc;subst hc;refine ⟨_,rfl,fun E w Z ρ v h=>?_⟩;rw [show max n 0 % 256=n from by omega];exact Yh rfl h
  ·cases h
 rest:=by
  intro cs ps x rest h;split at h
  ·cases h; rfl
  ·cases h
def T6.bool:T6 T Bool where
 sz:=1
 k b:=[.lit (.bool b)]
 p
  | .lit (.bool b) :: rest=>some ([],b,rest)
  | _=>none
 klen _:=rfl
 ok:=by
  intro cs ps x rest h _ j hj c hc
  have:j=0:=by omega
  subst this;split at h
  ·cases h;simp at hc;subst hc;exact ⟨_,rfl,fun E w Z ρ v h=>Yh rfl h⟩
  ·cases h
 rest:=by
  intro cs ps x rest h;split at h
  ·cases h; rfl
  ·cases h
def T6.str:T6 T (List UInt8) where
 sz:=1
 k b:=[.str b]
 p
  | .str b :: rest=>some ([],b,rest)
  | _=>none
 klen _:=rfl
 ok:=by
  intro cs ps x rest h _ j hj c hc
  have:j=0:=by omega
  subst this;split at h
  ·cases h;simp at hc;subst hc;exact ⟨_,rfl,fun E w Z ρ v h=>Yh rfl h⟩
  ·cases h
 rest:=by
  intro cs ps x rest h;split at h
  ·cases h; rfl
  ·cases h
def T6.sl [DecidableEq Tag] (t:Tag):T6 T (List (T t)) where
 sz:=1
 k l:=[.ro t l]
 p
  | .ro t' l :: rest=>match decEq t' t with | .isTrue h=>some ([],h ▸ l,rest) | .isFalse _=>none
  | .lit (.slice none 0 0) :: rest=>some ([],[],rest)
  | _=>none
 klen _:=rfl
 ok:=by
  intro cs ps x rest h _ j hj c hc
  have:j=0:=by omega
  subst this;split at h
  ·split at h
   ·rename_i hk _;cases h;subst hk;simp at hc;subst hc;exact ⟨_,rfl,fun E w Z ρ v h=>Yh rfl h⟩
   ·cases h
  ·cases h;simp at hc;subst hc;refine ⟨_,rfl,fun E w Z ρ v h=>?_⟩;cases h with
   | pure h=>cases h with | lit _=>exact .ronil _ _ _
  ·cases h
 rest:=by
  intro cs ps x rest h;split at h
  ·split at h
   ·cases h; rfl
   ·cases h
  ·cases h; rfl
  ·cases h
def T6.pair {α β:Type} (a:T6 T α) (b:T6 T β):T6 T (α×β) where
 sz:=a.sz+b.sz
 k x:=a.k x.1++b.k x.2
 p cs:=match a.p cs with
  | some (ps,x,r)=>match b.p r with
   | some (qs,y,r')=>some (ps++qs,(x,y),r')
   | none=>none
  | none=>none
 klen x:=by simp [a.klen,b.klen]
 ok:=by
  intro cs ps x rest h hps j hj c hc;split at h
  ·rename_i p1 x1 r1 h1;split at h
   ·rename_i p2 x2 r2 h2;cases h;obtain ⟨g1,g2⟩:=hps.append;by_cases hlt:j < a.sz
    ·rw [List.getElem?_append_left (by rw [a.klen]; exact hlt)] at hc;exact a.ok _ _ _ _ h1 g1 j hlt c hc
    ·rw [List.getElem?_append_right (by rw [a.klen]; omega),a.klen] at hc;obtain ⟨d,hd,hr⟩:=b.ok _ _ _ _ h2 g2 (j - a.sz) (by omega) c hc;rw [a.rest _ _ _ _ h1,List.getElem?_drop] at hd;exact ⟨d,by rw [← hd]; congr 1; omega,hr⟩
   ·cases h
  ·cases h
 rest:=by
  intro cs ps x rest h;split at h
  ·rename_i p1 x1 r1 h1;split at h
   ·rename_i p2 x2 r2 h2;cases h;rw [b.rest _ _ _ _ h2,a.rest _ _ _ _ h1,List.drop_drop]
   ·cases h
  ·cases h
def T6.iso {α β:Type} (a:T6 T α) (f:β→α) (g:α→β) (hfg:∀ x,f (g x)=x):T6 T β where
 sz:=a.sz
 k x:=a.k (f x)
 p cs:=match a.p cs with
  | some (ps,x,r)=>some (ps,g x,r)
  | none=>none
 klen x:=a.klen _
 ok:=by
  intro cs ps x rest h hps j hj c hc;split at h
  ·rename_i p1 x1 r1 h1;cases h;rw [hfg] at hc;exact a.ok _ _ _ _ h1 hps j hj c hc
  ·cases h
 rest:=by
  intro cs ps x rest h;split at h
  ·rename_i p1 x1 r1 h1;cases h;exact a.rest _ _ _ _ h1
  ·cases h
def T6.un {α:Type} (a:T6 T α) (cs:List (CV T)):Option (List Prop×α) :=
 match a.p cs with
 | some (ps,x,[])=>some (ps,x)
 | _=>none
theorem T6.un_ok {α:Type} (a:T6 T α) {cs:List (CV T)} {ps:List Prop} {x:α} (h:a.un cs=some (ps,x)) (hps:Us ps) (j:Nat) (c:CV T) (hc:(a.k x)[j]? = some c) :
  ∃ d,cs[j]? = some d∧∀ (E:Uv T) w Z ρ v,RC E w Z ρ d v→PR E w Z c v:=by
 unfold T6.un at h;split at h
 ·rename_i h1;cases h;exact a.ok _ _ _ _ h1 hps j (by rw [← a.klen x]; exact (List.getElem?_eq_some_iff.1 hc).1) c hc
 ·cases h
end
theorem Tn {α:Type} {C:Prop} [Decidable C] {A B:Option α} {r:α} (h:(if C then A else B)=some r):(C∧A=some r)∨(¬ C∧B=some r):=by
 split at h
 ·exact .inl ⟨‹_›,h⟩
 ·exact .inr ⟨‹_›,h⟩
theorem Ts {α:Type} {C:Prop} [Decidable C] {A:Option α} {r:α} (h:(if C then A else none)=some r):C∧A=some r:=by
 split at h
 ·exact ⟨‹_›,h⟩
 ·cases h
theorem bind_some {α β:Type} {x:Option α} {f:α→Option β} {r:β} (h:x.bind f=some r):∃ a,x=some a∧f a=some r:=Option.bind_eq_some_iff.1 h
inductive T5 (α β:Type) where
 | done (a:α)
 | go (b:β)
inductive Step (α β:Type) where
 | next (a:α)
 | stop (b:β)
section
variable {Tag:Type} {T:Tag→Type} {V:Wb T} {P:Program} {n m:Nat} {Γ:Ud} {S:St T} {Q:Exit→St T→Prop}
theorem Uc {c:Code} {Q':Exit→St T→Prop} (h:Ub V P n m Γ c Q' S) (hq:∀ e S',Q' e S'→Q e S'):Ub V P n m Γ c Q S :=
 fun Z ρ a w ha=>Code.wp_mono (fun e a' w' ⟨S',Z',ρ',h1,h2⟩=>⟨S',Z',ρ',hq e S' h1,h2⟩) (h Z ρ a w ha)
end
end Go.Proofs.YtifjagfmfkemmaaGreatDoor.Eng
namespace Go.Proofs.YtifjagfmfkemmaaGreatDoor.Eng
open Go.RowKit (Below)
section
variable {Tag:Type} {T:Tag→Type} {V:Wb T} {P:Program} {n m:Nat} {Γ:Ud} {S:St T} {Q:Exit→St T→Prop}
variable {Z:Nat→Prop} {ρ:Nat→Option (Nat×Nat×Nat)} {a:Act} {w:World}
theorem Ul.look (h:Ul V n m Γ S Z ρ a w) {t:Nat} {r:AV T} (hr:RA V.E w Z ρ r (a.tmps.getD t undef)):Ul V n m Γ (S.put (some t) r) Z ρ a w :=
 { h with
  tmps:=fun s v hv=>by
   simp only [St.put] at hv;rw [T2] at hv;by_cases hs:s=t
   ·subst hs; rw [if_pos rfl] at hv; cases hv; exact hr
   ·rw [if_neg hs,Uj,if_neg hs] at hv; exact h.tmps s v hv }
end
def obind {α β γ:Type} (o:Option (T5 α β)) (d:α→γ) (f:β→Option γ):Option γ :=
 match o with
 | none=>none
 | some (.done a)=>some (d a)
 | some (.go x)=>f x
theorem T7 {α β γ:Type} {o:Option (T5 α β)} {d:α→γ} {f:β→Option γ} {r:γ} (h:obind o d f=some r):∃ p,o=some p∧((∃ a,p=.done a∧d a=r)∨∃ x,p=.go x∧f x=some r):=by
 unfold obind at h;split at h
 ·cases h
 ·rename_i a; cases h; exact ⟨_,rfl,.inl ⟨a,rfl,rfl⟩⟩
 ·rename_i x; exact ⟨_,rfl,.inr ⟨x,rfl,h⟩⟩
end Go.Proofs.YtifjagfmfkemmaaGreatDoor.Eng
namespace Go.Proofs.YtifjagfmfkemmaaGreatDoor.Eng
open Go.RowKit (Below)
section
variable {Tag:Type} {T:Tag→Type} {V:Wb T}
variable {P:Program} {n m:Nat} {Γ:Ud} {S:St T} {Z:Nat→Prop} {ρ:Nat→Option (Nat×Nat×Nat)} {a:Act} {w:World} {Q:Exit→St T→Prop}
def Ty (P:Program) (V:Wb T) (fn:Func) (r:AV T) (H':List (Nat×T9 T)) (e:Exit) (S:St T):Prop :=
 (e=.normal∨e=.ret)∧∃ x,Wq V.E P S fn=some x∧Yz x r=r∧(S.keep [] (H'.map (·.1))).co ⟨[],H'⟩=⟨[],H'⟩
theorem Acn {f:FuncId} {fn:Func} {c:Code} {args:List (AV T)} {H:List (Nat×T9 T)} {fx:List Nat} {r:AV T} {H':List (Nat×T9 T)} (hf:P.funcs[f]? = some fn) (hb:fn.body=some c) (hcal:U8 P f=true) (hn:fn.ntmps=n) (hle:Nat.ble args.length n=true)
  (hids:(H.all (fun p=>Nat.blt p.1 100) && fx.all (fun i=>Nat.blt i m))=true)
  (h:∀ Γ:Ud,Ub V P n m Γ c (Ty P V fn r H') ⟨Tx 0 args,H⟩):Tv V P f args H fx r H':=by
 refine ⟨hcal,fun w Z ρ vs hZ hsz hargs hH=>?_⟩;simp only [Bool.and_eq_true,List.all_eq_true] at hids
 let Γ:Ud:={ w0:=w,Z0:=Z,D:=fun id b=>id < 100∧∃ blk c,look id H=some blk∧ρ id=some (b,c),st:=fx.map fun i=>(i,ρ i) }
 refine calls_of_wp hf hb ?_;have ha:Ul V n m Γ ⟨Tx 0 args,H⟩ Z ρ { tmps:=vs++Array.replicate (fn.ntmps - vs.size) undef,defers:=[] } w:={
  defers:=rfl
  size:=by have:=Nat.le_of_ble_eq_true hle; simp [hn]; omega
  tmps:=fun t v hv=>by
   obtain ⟨_,hv⟩:=Wx args 0 t v hv;simp only [Nat.sub_zero] at hv;have ht:t < vs.size:=by rw [hsz]; exact (List.getElem?_eq_some_iff.1 hv).1
   have:=hargs t v vs[t] hv (by simp [ht])
   have e:(vs++Array.replicate (fn.ntmps - vs.size) undef).getD t undef=vs[t]:=by
    rw [Array.getD_eq_getD_getElem?,Array.getElem?_append_left ht]; simp [ht]
   rw [e]; exact this
  os:=rfl
  tape:=rfl
  output:=rfl
  hsize:=Nat.le_refl _
  old:=fun _ _ _=>rfl
  stm:=fun p hp=>by
   obtain ⟨i,hi,rfl⟩:=List.mem_map.1 hp
   have:=hids.2 i hi
   exact Nat.le_of_ble_eq_true this
  dlt:=fun _ _ h=>h.1
  st:=fun p hp=>by
   obtain ⟨i,hi,rfl⟩:=List.mem_map.1 hp;rfl
  Z0:=fun _ h=>h
  Zold:=fun _ h _=>h
  Zlt:=hZ.lt
  glb:=hZ.glb
  own:=fun id blk b c hl hr=>by
   obtain ⟨h1,h2⟩:=hH.own id blk b c hl hr
   have:=hids.1 (id,blk) (Wp hl)
   exact ⟨h1,h2,.inr ⟨Nat.le_of_ble_eq_true this,blk,c,hl,hr⟩⟩
  inj:=hH.inj
  blk:=hH.blk }
 refine Code.wp_mono (fun e a' w' hq=>?_) (h Γ Z ρ _ w ha);obtain ⟨S',Z',ρ',⟨he,x,h1,h2,h3⟩,ha'⟩:=hq;obtain ⟨v,e1,e2⟩:=Y2 h1 ha';have e3:=Xf (y:=r) e2;rw [h2] at e3;have hB:=(ha'.keep [] (H'.map (·.1))).co V ⟨[],H'⟩;rw [h3] at hB;have key:∃ v,(results fn a'.tmps).run P w'=.ok v w'∧(∃ v2 Z2 ρ2,Ending.returned v=.returned v2∧Aey V.E w w' Z Z2 ρ ρ2 H H' fx∧RA V.E w' Z2 ρ2 r v2):=by
  refine ⟨v,e1,v,Z',ρ',rfl,⟨⟨ha'.os,ha'.tape,ha'.output,ha'.hsize,fun b hb hn=>ha'.old b hb fun id hd=>hn ?_,fun b hb=>ha'.Z0 b hb,fun b hb=>?_⟩,fun id hid=>?_,⟨fun id blk b c hl hr=>?_,hB.inj,hB.blk⟩,fun id blk b c hl hr=>?_⟩,e3⟩
  ·obtain ⟨_,blk,c,h4,h5⟩:=hd;exact ⟨id,blk,c,h4,h5⟩
  ·rcases Nat.lt_or_ge b w.heap.size with hlt | hge
   ·exact .inl (ha'.Zold b hb hlt)
   ·exact .inr ⟨hge,ha'.Zlt b hb⟩
  ·exact ha'.st (id,ρ id) (List.mem_map.2 ⟨id,hid,rfl⟩)
  ·obtain ⟨g1,g2,_⟩:=hB.own id blk b c hl hr;exact ⟨g1,g2⟩
  ·rcases (hB.own id blk b c hl hr).2.2 with g |⟨_,blk0,c0,g1,g2⟩
   ·exact .inl g
   ·exact .inr ⟨blk0,c0,g1,g2⟩
 rcases he with rfl | rfl
 ·exact ⟨ha'.defers,key⟩
 ·exact ⟨ha'.defers,key⟩
theorem Tv.pcall {f:FuncId} {args:List (AV T)} {r:AV T} (h:Tv V P f args [] [] r []) (hr:r.clean=true):T1 V P f args r:=by
 refine ⟨h.1,fun w Z vs hZ hsz hargs=>(h.2 w Z (fun _=>none) vs hZ hsz hargs ⟨fun id blk b c hl=>(by cases hl),fun id id' blk blk' b c c' hl=>(by cases hl),fun id blk hl=>(by cases hl)⟩).mono fun e w' he=>?_⟩;obtain ⟨v,Z',ρ',rfl,hp,hra⟩:=he;refine ⟨v,Z',rfl,⟨⟨hp.onto.os,hp.onto.tape,hp.onto.output,hp.onto.size,fun k hk=>hp.onto.block k hk fun ⟨_,_,_,h,_⟩=>by cases h⟩,hp.onto.sub,hp.onto.fresh⟩,?_⟩;exact hra.mono V.E (fun _ h=>h) (fun _ _=>rfl) fun id hid=>by rw [AV.clean_names hr id] at hid; cases hid
theorem Tv.co {f:FuncId} {args args':List (AV T)} {H H0:List (Nat×T9 T)} {fx:List Nat} {r:AV T} {H':List (Nat×T9 T)} (h:Tv V P f args' H0 fx r H') (ha:Yz.coAL args args'=args') (hH:coH H H0=H0):Tv V P f args H fx r H':=by
 refine ⟨h.1,fun w Z ρ vs hZ hsz hargs hR=>?_⟩;obtain ⟨g1,g2⟩:=V5 (E:=V.E) (w:=w) (Z:=Z) (ρ:=ρ) args args';rw [ha] at g1 g2;have key:∀ id blk,look id H0=some blk→∃ b0 u,look id H=some b0∧(blk=b0∨blk=coB b0 u):=fun id blk hl=>by
  rw [← hH] at hl; exact Wu hl
 have hR0:Aep V.E w Z ρ H0:={
  own:=fun id blk b c hl hr=>by obtain ⟨b0,u,h1,_⟩:=key id blk hl; exact hR.own id b0 b c h1 hr
  inj:=fun id id' blk blk' b c c' hl hl' hr hr'=>by
   obtain ⟨b0,u,h1,_⟩:=key id blk hl;obtain ⟨b1,u1,h2,_⟩:=key id' blk' hl';exact hR.inj id id' b0 b1 b c c' h1 h2 hr hr'
  blk:=fun id blk hl=>by
   obtain ⟨b0,u,h1,h2⟩:=key id blk hl;rcases h2 with rfl | rfl
   ·exact hR.blk id _ h1
   ·exact Aay (hR.blk id b0 h1) }
 refine (h.2 w Z ρ vs hZ (by omega) (fun i x v hx hv=>g2 i x v hx fun c' hc'=>hargs i c' v hc' hv) hR0).mono fun e w' he=>?_
 obtain ⟨v,Z',ρ',rfl,hp,hra⟩:=he;refine ⟨v,Z',ρ',rfl,⟨⟨hp.onto.os,hp.onto.tape,hp.onto.output,hp.onto.size,fun b hb hn=>hp.onto.block b hb fun ⟨id,blk,c,h1,h2⟩=>hn ?_,hp.onto.sub,hp.onto.fresh⟩,hp.fx,hp.rel,fun id blk b c h1 h2=>?_⟩,hra⟩
 ·obtain ⟨b0,u,h3,_⟩:=key id blk h1;exact ⟨id,b0,c,h3,h2⟩
 ·rcases hp.from_ id blk b c h1 h2 with h3 |⟨blk0,c0,h3,h4⟩
  ·exact .inl h3
  ·obtain ⟨b0,u,h5,_⟩:=key id blk0 h3;exact .inr ⟨b0,c0,h5,h4⟩
def St.ren (σ:List (Nat×Nat)) (S:St T):St T:=⟨S.tmps.map fun p=>(p.1,p.2.ren fun i=>(look i σ).getD i),Ae5 (fun i=>(look i σ).getD i) S.heap⟩
def Adz (m:Nat) (σ:List (Nat×Nat)) (S:St T):Bool :=
 Vi (σ.map (·.1)) && Vi (σ.map (·.2)) && Nat.ble m 100 && σ.all (fun p=>Nat.beq p.1 p.2 ||(Nat.ble 100 p.1 && Nat.ble 100 p.2)) &&
 S.tmps.all (fun p=>p.2.inB fun i=>Uf i (σ.map (·.1))) && S.heap.all (fun p=>Uf p.1 (σ.map (·.1)) && p.2.inB fun i=>Uf i (σ.map (·.1))) && Vi (S.heap.map (·.1))
theorem Ul.ren (ha:Ul V n m Γ S Z ρ a w) {σ:List (Nat×Nat)} (hok:Adz m σ S=true):∃ ρ',Ul V n m Γ (S.ren σ) Z ρ' a w:=by
 unfold Adz at hok;simp only [Bool.and_eq_true,List.all_eq_true,Bool.or_eq_true] at hok;obtain ⟨⟨⟨⟨⟨⟨k1,k2⟩,k3⟩,k4⟩,k5⟩,k6⟩,k7⟩:=hok
 let e:Ur T:={ hids:=[],fx:=[],r:=.any,H':=[],σ:=σ }
 have hfdef:∀ i,e.f i=(Eng.look i σ).getD i:=fun i=>rfl
 let ρ2:Nat→Option (Nat×Nat×Nat):=fun j=>match inv j σ with | some i=>ρ i | none=>ρ j
 have hρf:∀ i,Uf i (σ.map (·.1))=true→ρ2 (e.f i)=ρ i:=fun i hi=>by
  show (match inv (e.f i) σ with | some i=>ρ i | none=>ρ (e.f i))=ρ i
  have:=Ur.inv_f (e:=e) k1 k2 hi
  rw [show inv (e.f i) σ=some i from this]
 have hlook:∀ j blk,Eng.look j (S.ren σ).heap=some blk→∃ i b0,Eng.look i S.heap=some b0∧Uf i (σ.map (·.1))=true∧b0.inB (fun i=>Uf i (σ.map (·.1)))=true∧e.f i=j∧blk=b0.ren e.f:=fun j blk hl=>by
  obtain ⟨i,b0,h1,h2,h3⟩:=Aax (f:=e.f) (H:=S.heap) hl;have h4:=k6 (i,b0) h1;exact ⟨i,b0,Yg (Vy k7) h1,h4.1,h4.2,h2,h3⟩
 have hge:∀ i,Uf i (σ.map (·.1))=true→e.f i=i∨(100≤i∧100≤e.f i):=fun i hi=>by
  obtain ⟨⟨i',j⟩,hm,rfl⟩:=List.mem_map.1 (U7 hi);have h1:=Ur.f_mem (e:=e) k1 hm;rcases k4 _ hm with h | h
  ·left; rw [h1]; exact (Nat.eq_of_beq_eq_true h).symm
  ·right; rw [h1]; exact ⟨Nat.le_of_ble_eq_true h.1,Nat.le_of_ble_eq_true h.2⟩
 refine ⟨ρ2,{ ha with
  tmps:=fun t x hx=>by
   simp only [St.ren] at hx;rw [Vb,Option.map_eq_some_iff] at hx;obtain ⟨x0,h1,rfl⟩:=hx;have h2:=k5 (t,x0) (Wp h1);exact RA.ren (ρ:=ρ2) (f:=e.f) ((ha.tmps t x0 h1).mono V.E (fun _ h=>h) (fun _ _=>rfl) fun id hid=>hρf id (AV.inB_names h2 hid))
  st:=fun p hp=>by
   have h1:=ha.stm p hp;have h2:=Nat.le_of_ble_eq_true k3;rw [← ha.st p hp];show (match inv p.1 σ with | some i=>ρ i | none=>ρ p.1)=ρ p.1;cases hi:inv p.1 σ with
   | none=>rfl
   | some i =>
    have hm:=Wr hi;rcases k4 _ hm with h | h
    ·exact congrArg ρ (Nat.eq_of_beq_eq_true h)
    ·have:=Nat.le_of_ble_eq_true h.2; simp only at this; omega
  own:=fun j blk b c hl hr=>by
   obtain ⟨i,b0,h1,h2,h3,rfl,rfl⟩:=hlook j blk hl;rw [hρf i h2] at hr;obtain ⟨g1,g2,g3⟩:=ha.own i b0 b c h1 hr;refine ⟨g1,g2,?_⟩;rcases g3 with g3 | g3
   ·exact .inl g3
   ·have:=ha.dlt _ _ g3
    rcases hge i h2 with h | h
    ·rw [h]; exact .inr g3
    ·omega
  inj:=fun j j' blk blk' b c c' hl hl' hr hr'=>by
   obtain ⟨i,b0,h1,h2,h3,rfl,rfl⟩:=hlook j blk hl;obtain ⟨i',b0',h1',h2',h3',rfl,rfl⟩:=hlook j' blk' hl';rw [hρf i h2] at hr;rw [hρf i' h2'] at hr';rw [ha.inj i i' b0 b0' b c c' h1 h1' hr hr']
  blk:=fun j blk hl=>by
   obtain ⟨i,b0,h1,h2,h3,rfl,rfl⟩:=hlook j blk hl;rw [hρf i h2];exact BR.ren (ρ:=ρ2) (f:=e.f) (BR.mono (fun _ h=>h) (fun _ _=>rfl) (fun _ _ _=>rfl) (ha.blk i b0 h1) fun id hid=>hρf id (T9.inB_names h3 hid)) }⟩
end
end Go.Proofs.YtifjagfmfkemmaaGreatDoor.Eng
namespace Go.Proofs.YtifjagfmfkemmaaGreatDoor.Eng
open Go.RowKit (Below)
section
variable {Tag:Type} {T:Tag→Type} {V:Wb T}
variable {P:Program} {n m:Nat} {Γ:Ud} {S:St T} {Z:Nat→Prop} {ρ:Nat→Option (Nat×Nat×Nat)} {a:Act} {w:World} {Q:Exit→St T→Prop}
def Tl (V:Wb T) (n m:Nat) (Γ:Ud) (S S':St T):Prop:=∀ Z ρ a w,Ul V n m Γ S Z ρ a w→∃ Z' ρ',Ul V n m Γ S' Z' ρ' a w
theorem Tl.refl:Tl V n m Γ S S:=fun Z ρ a w h=>⟨Z,ρ,h⟩
theorem Tl.trans {S1 S2:St T} (h:Tl V n m Γ S S1) (h':Tl V n m Γ S1 S2):Tl V n m Γ S S2:=fun Z ρ a w ha=>by
 obtain ⟨Z1,ρ1,h1⟩:=h Z ρ a w ha;exact h' Z1 ρ1 a w h1
theorem Tl.keep (ts ids:List Nat) {S':St T} (hk:(S.keep ts ids).co S'=S'):Tl V n m Γ S S':=fun Z ρ a w ha=>⟨Z,ρ,hk ▸ (ha.keep ts ids).co V S'⟩
theorem Tl.ren (σ:List (Nat×Nat)) {S':St T} (hok:Adz m σ S=true) (hk:S.ren σ=S'):Tl V n m Γ S S':=fun Z ρ a w ha=>by
 obtain ⟨ρ',h⟩:=ha.ren hok;exact ⟨Z,ρ',hk ▸ h⟩
theorem Tl.frz (id:Nat) {blk0:T9 T} (hl:Eng.look id S.heap=some blk0) (hid:Nat.ble 100 id=true) {S':St T} (hk:S.frz V.E id blk0=S'):Tl V n m Γ S S':=fun Z ρ a w ha =>
 ⟨_,ρ,hk ▸ ha.frz hl (Nat.le_of_ble_eq_true hid)⟩
theorem Tl.nilown (t id:Nat) (tg:Tag) (hl:Eng.look t S.tmps=some (.cv (.lit (.slice none 0 0)))) (hok:(Nat.ble m id && !S.named id)=true) {S':St T} (hk:(S.new id (.lst tg [])).put (some t) (.cv (.own tg id))=S') :
  Tl V n m Γ S S':=by
 subst hk;intro Z ρ a w ha;simp only [Bool.and_eq_true,Bool.not_eq_true'] at hok;have hx:=ha.tmps _ _ hl;generalize hv:a.tmps.getD t undef=v at hx;cases hx with | cv hx =>
 cases hx with | pure hx =>
 cases hx with
 | lit =>
  have hn:=ha.claim V (id:=id) (bc:=none) (Nat.le_of_ble_eq_true hok.1) hok.2 (fun _ _ h=>by cases h) (B:=.lst tg []) rfl;exact ⟨Z,_,(hn.look (by rw [hv]; exact .cv (.ownv (by unfold U0; rw [if_pos rfl]))))⟩
theorem Tl.nilownc (b pos id:Nat) (tg:Tag) (cs:List (CV T)) (hl:Eng.look b S.heap=some (.raw cs)) (hc:cs[pos]? = some (.lit (.slice none 0 0))) (hne:Nat.beq b id=false) (hok:(Nat.ble m id && !S.named id)=true) {S':St T} (hk:⟨S.tmps,(id,.lst tg []) ::(b,.raw (cs.set pos (.own tg id))) :: del id (del b S.heap)⟩=S') :
  Tl V n m Γ S S':=by
 subst hk;intro Z ρ a w ha;simp only [Bool.and_eq_true,Bool.not_eq_true'] at hok;have hne':b≠id:=fun e=>by subst e; simp at hne
 have hn:=ha.claim V (id:=id) (bc:=none) (Nat.le_of_ble_eq_true hok.1) hok.2 (fun _ _ h=>by cases h) (B:=.lst tg []) rfl;have hlook:∀ i blk,Eng.look i ((id,T9.lst tg []) ::(b,.raw (cs.set pos (.own tg id))) :: del id (del b S.heap))=some blk→(i=id∧blk=.lst tg [])∨(i≠id∧i=b∧blk=.raw (cs.set pos (.own tg id)))∨(i≠id∧i≠b∧Eng.look i S.heap=some blk):=fun i blk hl=>by
  rw [T2] at hl;by_cases hi:i=id
  ·rw [if_pos hi] at hl; cases hl; exact .inl ⟨hi,rfl⟩
  ·rw [if_neg hi,T2] at hl;by_cases hb:i=b
   ·rw [if_pos hb] at hl; cases hl; exact .inr (.inl ⟨hi,hb,rfl⟩)
   ·rw [if_neg hb,Uj,if_neg hi,Uj,if_neg hb] at hl; exact .inr (.inr ⟨hi,hb,hl⟩)
 have hold:∀ i blk,i≠id→Eng.look i S.heap=some blk→Eng.look i (S.new id (.lst tg [])).heap=some blk:=fun i blk hi hl=>by
  simp only [St.new]; rw [T2,if_neg hi,Uj,if_neg hi]; exact hl
 have hnew:Eng.look id (S.new id (.lst tg [])).heap=some (.lst tg []):=by simp only [St.new]; rw [T2,if_pos rfl]
 have hrel:∀ i blk,Eng.look i ((id,T9.lst tg []) ::(b,.raw (cs.set pos (.own tg id))) :: del id (del b S.heap))=some blk→∃ blk0,Eng.look i (S.new id (.lst tg [])).heap=some blk0:=fun i blk hl'=>by
  rcases hlook i blk hl' with ⟨rfl,rfl⟩ |⟨hi,rfl,rfl⟩ |⟨hi,hb,hl1⟩
  ·exact ⟨_,hnew⟩
  ·exact ⟨_,hold _ _ hi hl⟩
  ·exact ⟨_,hold _ _ hi hl1⟩
 exact ⟨Z,_,{ hn with
  own:=fun i blk b1 c1 hl' hr=>by
   obtain ⟨blk0,h0⟩:=hrel i blk hl';exact hn.own i blk0 b1 c1 h0 hr
  inj:=fun i i' blk blk' b1 c1 c2 hl1 hl2 hr hr'=>by
   obtain ⟨blk0,h0⟩:=hrel i blk hl1;obtain ⟨blk1,h1⟩:=hrel i' blk' hl2;exact hn.inj i i' blk0 blk1 b1 c1 c2 h0 h1 hr hr'
  blk:=fun i blk hl'=>by
   rcases hlook i blk hl' with ⟨rfl,rfl⟩ |⟨hi,rfl,rfl⟩ |⟨hi,hb,hl1⟩
   ·exact hn.blk _ _ hnew
   ·have h0:=hn.blk _ _ (hold _ _ hi hl);cases hbc:U0 ρ id none i with
    | none=>rw [hbc] at h0; exact h0.elim
    | some p =>
     rw [hbc] at h0;obtain ⟨bb,cc⟩:=p;obtain ⟨arr,e,g1,g2,g3⟩:=h0;refine ⟨arr,e,g1,by simpa using g2,fun j c0 u hj hu=>?_⟩;by_cases hjp:j=pos
     ·subst hjp;have hlt:j < cs.length:=(List.getElem?_eq_some_iff.1 hc).1;rw [List.getElem?_set] at hj;simp [hlt] at hj;subst hj
      have:=g3 j _ u hc hu
      cases this with | pure this=>cases this with
      | lit=>exact .ownv (by unfold U0; rw [if_pos rfl])
     ·rw [List.getElem?_set_ne (fun e=>hjp e.symm)] at hj;exact g3 j c0 u hj hu
   ·exact hn.blk _ _ (hold _ _ hi hl1) }⟩
theorem Tp {c:Code} {S':St T} (ht:Tl V n m Γ S S') (h:Ub V P n m Γ c Q S'):Ub V P n m Γ c Q S:=fun Z ρ a w ha=>by
 obtain ⟨Z',ρ',h'⟩:=ht Z ρ a w ha;exact h Z' ρ' a w h'
theorem Tz {c:Code} {S1 S':St T} (h:Ub V P n m Γ c (fun e S=>e=.normal∧S=S1) S) (ht:Tl V n m Γ S1 S') (hQ:Q .normal S'):Ub V P n m Γ c Q S:=fun Z ρ a w ha =>
 Code.wp_mono (fun e a' w' hq=>by
  obtain ⟨S2,Z2,ρ2,⟨rfl,rfl⟩,h2⟩:=hq;obtain ⟨Z',ρ',h'⟩:=ht Z2 ρ2 a' w' h2;exact ⟨S',Z',ρ',hQ,h'⟩) (h Z ρ a w ha)
theorem T4 {c:Code} {Q':Exit→St T→Prop} (h:Ub V P n m Γ c Q' S) (hq:∀ e S',Q' e S'→∃ S'',Tl V n m Γ S' S''∧Q e S''):Ub V P n m Γ c Q S:=fun Z ρ a w ha =>
 Code.wp_mono (fun e a' w' hq'=>by
  obtain ⟨S2,Z2,ρ2,h1,h2⟩:=hq';obtain ⟨S',ht,hQ⟩:=hq e S2 h1;obtain ⟨Z',ρ',h'⟩:=ht Z2 ρ2 a' w' h2;exact ⟨S',Z',ρ',hQ,h'⟩) (h Z ρ a w ha)
end
end Go.Proofs.YtifjagfmfkemmaaGreatDoor.Eng
namespace Go.Proofs.YtifjagfmfkemmaaGreatDoor.Eng
open Go.RowKit (Below)
open Go.ChangeShapes Go.WideShapes
section
variable {Tag:Type} {T:Tag→Type}
def Vr (V:Wb T) (P:Program) (t:TypeId) {α:Type} (c:T6 T α) (G:α→Prop):Prop :=
 ∀ (H:Type) (enc:TypeId×Value→H) (W:World) (spare:Nat→Bool) (held:Bool) (fuel:Nat) (cs:List Value) (x:DataW H×List MemPlace),
  DataW.trod enc P W 0 spare held fuel t cs=some x→(∀ n∈x.1.weights P t,n≤reachBytes)→∃ y,G y∧cs.length=c.sz∧∀ (j:Nat) k v,(c.k y)[j]? = some k→cs[j]? = some v→PR V.E W (fun b=>b < W.heap.size) k v
variable {V:Wb T} {P:Program} {t:TypeId}
theorem Aeq (ht:P.underlying t=some .string):Vr V P t (T6.str) (fun l=>l.length≤reachBytes):=by
 intro H enc W spare held fuel cs x h hwt;obtain ⟨s,rfl,rfl,hl⟩:=DataW.trod_string ht h;refine ⟨s.data.toList,hwt _ (by simp [DataW.weights]),rfl,fun j c v hc hv=>?_⟩
 match j with
 | 0=>simp [T6.str] at hc hv; subst hc; subst hv; exact .str _
 | j+1=>simp [T6.str] at hc
where cellsq {W:World} {a:Addr} {v:Value} (h:W.cell? a=some v):W.cells? 0 a 1=some [v]:=cells?_one (Nat.zero_le _) h
theorem Vr.one {α:Type} {c:T6 T α} {G:α→Prop} (h:Vr V P t c G) {W:World} {v:Value} {H:Type} {enc:TypeId×Value→H} {spare:Nat→Bool} {held:Bool} {d:DataW H} {ps:List MemPlace} (hr:DataW.Trod enc P W 0 spare held t v d ps) (hwt:∀ n∈d.weights P t,n≤reachBytes)
  (hv:v.oneCell'=true):∃ y,G y∧∀ k,c.k y=[k]→RA V.E W (fun b=>b < W.heap.size) (fun _=>none) (.cv k) v:=by
 obtain ⟨fuel,hr⟩:=hr;obtain ⟨y,g1,g2,g3⟩:=h H enc W spare held fuel _ _ hr hwt;have hc:v.cells.toList=[v]:=by cases v <;> first | rfl | cases hv
 rw [hc] at g3;exact ⟨y,g1,fun k hk=>.cv (.pure (g3 0 k v (by rw [hk]; rfl) rfl))⟩
theorem Vr.agg {α:Type} {c:T6 T α} {G:α→Prop} (h:Vr V P t c G) {W:World} {us:Array Value} {H:Type} {enc:TypeId×Value→H} {spare:Nat→Bool} {held:Bool} {d:DataW H} {ps:List MemPlace} (hr:DataW.Trod enc P W 0 spare held t (.agg us) d ps) (hwt:∀ n∈d.weights P t,n≤reachBytes) :
  ∃ y,G y∧RA V.E W (fun b=>b < W.heap.size) (fun _=>none) (.agg (c.k y)) (.agg us):=by
 obtain ⟨fuel,hr⟩:=hr;obtain ⟨y,g1,g2,g3⟩:=h H enc W spare held fuel _ _ hr hwt;refine ⟨y,g1,.agg (by rw [c.klen]; simpa [Value.cells] using g2) fun i k v hk hv=>.pure (g3 i k v hk (by simpa [Value.cells] using hv))⟩
theorem Aao {H:Type} {enc:TypeId×Value→H} {f:Func} {s:ChangeSpec} {apart fresh handsOn again:Bool} {W W':World} {args:Array Value} {v:Value} {ds gs:List (DataW H)} {before pa pv:List MemPlace}
  (hW:DataW.Whole enc P f.params.toList s.vars apart W args.toList ds gs before) (hb:Below W.heap.size W W')
  (hres:∀ (b:Nat) (sp:Nat→Bool) (hd:Bool),DataW.TrodAll enc P W' b sp hd f.resultTypes.toList (v.resultList f.resultTypes.size) (s.fn H (ds++gs)).results [])
  (hargs:∀ sp:Nat→Bool,(∀ p∈before,sp p.block=true)→DataW.TrodAll enc P W' 0 sp true f.params.toList args.toList (s.fn H (ds++gs)).args pa)
  (hvars:∀ sp:Nat→Bool,(∀ p∈before,sp p.block=true)→DataW.TrodVars enc P W' sp s.vars (s.fn H (ds++gs)).vars pv)
  (hps:before=pa++pv)
  (hok:∀ (j:Nat) (t:TypeId) (r:Value),f.resultTypes[j]? = some t→(v.resultList f.resultTypes.size)[j]? = some r→Value.okWide P W' .any 0 t r) :
  s.post enc P f apart fresh handsOn again W args v W':=by
 have hold:∀ p∈before,(fun b=>decide (b < W.heap.size)) p.block=true:=fun p hp=>by simpa using hW.lt p hp
 refine ⟨ds,gs,before,[],pa,pv,hW,hres _ _ _,hargs _ hold,hvars _ hold,hb.frame _,fun _=>?_⟩;have hlt:∀ p∈before,p.block < W.heap.size:=fun p hp=>by simpa using hW.lt p hp
 obtain ⟨_,_,_,_,_,hz,hn⟩:=hW;refine ⟨hok,_,_,([]++pa)++pv,⟨[]++pa,pv,trodAll_append (hargs _ (fun _ _=>rfl)) (hres _ _ _),hvars _ (fun _ _=>rfl),rfl,?_,?_⟩,?_⟩
 ·intro b off hp;have hp':MemPlace.cell b off∈before:=by rw [hps]; simpa using hp
  rw [hb.frozen (p:=⟨b,off,none⟩) (hlt _ hp')];exact hz b off hp'
 ·intro ha
  have:=hn ha
  rw [hps] at this;simpa using this
 ·intro p hp _;rw [hps];simpa using hp
def Aff:TypeDesc→Bool
 | .bool | .string | .int _ | .slice _=>true
 | _=>false
theorem Aaq {W:World} {r:Reach} {base:Nat} {v:Value} {d:TypeDesc} (hd:P.underlying t=some d) (h1:Aff d=true) (h:Value.okWide P W r base t v):v.oneCell'=true:=by
 unfold Value.okWide at h;rw [hd] at h;cases d <;> first | cases h1; done |(unfold Cell.okWide Cell.ok at h; rw [hd] at h; cases v <;> first | rfl | exact h.elim)
theorem Vr.one' {α:Type} {c:T6 T α} {G:α→Prop} (h:Vr V P t c G) {W:World} {v:Value} {H:Type} {enc:TypeId×Value→H} {spare:Nat→Bool} {held:Bool} {d:DataW H} {ps:List MemPlace} {td:TypeDesc} {r:Reach} {base:Nat}
  (hd:P.underlying t=some td) (h1:Aff td=true) (hok:Value.okWide P W r base t v) (hr:DataW.Trod enc P W 0 spare held t v d ps) (hwt:∀ n∈d.weights P t,n≤reachBytes) :
  ∃ y,G y∧∀ k,c.k y=[k]→RA V.E W (fun b=>b < W.heap.size) (fun _=>none) (.cv k) v:=h.one hr hwt (Aaq hd h1 hok)
theorem Ya {H:Type} {t:TypeId} {ts:List TypeId} {d:DataW H} {ds:List (DataW H)} (h:(DataW.weightsEach P (t :: ts) (d :: ds)).all (·≤reachBytes)=true) :
  (∀ n∈d.weights P t,n≤reachBytes)∧(DataW.weightsEach P ts ds).all (·≤reachBytes)=true:=by
 unfold DataW.weightsEach at h;rw [List.all_append,Bool.and_eq_true] at h;exact ⟨fun n hn=>by have:=List.all_eq_true.1 h.1 n hn; simpa using this,h.2⟩
def RAs (V:Wb T) (W:World) (xs:List (AV T)) (vs:List Value):Prop:=∀ (i:Nat) x v,xs[i]? = some x→vs[i]? = some v→RA V.E W (fun b=>b < W.heap.size) (fun _=>none) x v
theorem Afq {W:World} {vs:List Value}:RAs V W [] vs:=fun i x v h=>by simp at h
theorem Ac7 {W:World} {x:AV T} {xs:List (AV T)} {v:Value} {vs:List Value} (h:RA V.E W (fun b=>b < W.heap.size) (fun _=>none) x v) (hs:RAs V W xs vs):RAs V W (x :: xs) (v :: vs):=fun i y u hy hu=>by
 cases i with
 | zero=>simp at hy hu; subst hy; subst hu; exact h
 | succ i=>exact hs i y u (by simpa using hy) (by simpa using hu)
theorem Xo {H:Type} {enc:TypeId×Value→H} (hl:laidOutB P=true) {W W':World} (hb:Below W.heap.size W W') {sp:Nat→Bool}:∀ (ts:List TypeId),ts.all (fun t=>P.readableRec t && decide (t < P.types.size))=true →
  ∀ (vs:List Value) (ds:List (DataW H)) (p:List MemPlace),DataW.TrodAll enc P W 0 (fun _=>true) true ts vs ds p→(∀ x∈p,x.block < W.heap.size)→(∀ x∈p,sp x.block=true)→DataW.TrodAll enc P W' 0 sp true ts vs ds p
 | [],_,vs,ds,p,h,_,_=>by
  obtain ⟨rfl,rfl,rfl⟩:=trodAll_nil h;rfl
 | t :: ts,hc,vs,ds,p,h,hlt,hsp=>by
  simp only [List.all_cons,Bool.and_eq_true,decide_eq_true_eq] at hc;obtain ⟨v,vs',d,ds',p1,p2,rfl,rfl,rfl,h1,h2⟩:=trodAll_cons h;refine ⟨p1,p2,WideElems.Trod_stays hl hc.1.1 hc.1.2 h1 (fun x hx=>hb.same (hlt x (by simp [hx]))) (fun x hx=>hsp x (by simp [hx])),Xo hl hb ts hc.2 _ _ _ h2 (fun x hx=>hlt x (by simp [hx])) (fun x hx=>hsp x (by simp [hx])),rfl⟩
theorem Aeo {H:Type} {enc:TypeId×Value→H} {f:Func} {s:ChangeSpec} {apart fresh handsOn again:Bool} {W W':World} {args:Array Value} {ds:List (DataW H)} {before:List MemPlace} {tb:TypeId}
  (hW:DataW.Whole enc P f.params.toList s.vars apart W args.toList ds [] before) (hb:Below W.heap.size W W') (hvars:s.vars=[]) (hl:laidOutB P=true)
  (hp:f.params.toList.all (fun t=>P.readableRec t && decide (t < P.types.size))=true) (hr:f.resultTypes = #[tb]) (htb:P.underlying tb=some .bool)
  (hs:s.fn H (ds++[]) = { results:=[.lit (.bool true)],args:=ds }) :
  s.post enc P f apart fresh handsOn again W args (.bool true) W':=by
 have hlt:∀ p∈before,p.block < W.heap.size:=fun p hp=>by simpa using hW.lt p hp
 have hW2:=hW;obtain ⟨p,q,hA,hV,rfl,_,_⟩:=hW2;rw [hvars] at hV;obtain ⟨_,rfl⟩:=trodVars_none hV;refine Aao (pa:=p) (pv:=[]) hW hb (fun b sp hd=>?_) (fun sp hsp=>?_) (fun sp hsp=>?_) rfl ?_
 ·rw [hr,hs];exact ⟨[],[],⟨1,by show DataW.trod enc P W' b sp hd 1 tb [.bool true]=_; unfold DataW.trod; rw [htb]⟩,rfl,rfl⟩
 ·rw [hs];exact Xo hl hb _ hp _ _ _ hA (fun x hx=>hlt x (by simp [hx])) (fun x hx=>hsp x (by simp [hx]))
 ·rw [hs,hvars]; rfl
 ·exact Go.RowKit.ok_one hr rfl (by unfold Value.okWide; rw [htb]; unfold Cell.okWide Cell.ok; rw [htb]; trivial)
end
end Go.Proofs.YtifjagfmfkemmaaGreatDoor.Eng
namespace Go.Proofs.YtifjagfmfkemmaaGreatDoor.Eng
theorem Agd (n:Int):IntKind.i64.wrap n=(n+9223372036854775808) % 18446744073709551616 - 9223372036854775808:=by
 simp [IntKind.wrap,IntKind.bits,IntKind.signed];split <;> omega
theorem wrap_small {x:Int} (h0:-9223372036854775808≤x) (h1:x≤9223372036854775807):IntKind.i64.wrap x=x:=by
 rw [Agd]; omega
section
variable {Tag:Type} {T:Tag→Type}
abbrev CV.I (n:Int):CV T:=.lit (.int .i64 n)
abbrev CV.B (b:Bool):CV T:=.lit (.bool b)
abbrev CV.N:CV T:=.lit (.slice none 0 0)
abbrev CV.P (id:Nat):CV T:=.ptr id 0
abbrev AV.I (n:Int):AV T:=.cv (.lit (.int .i64 n))
abbrev AV.B (b:Bool):AV T:=.cv (.lit (.bool b))
abbrev AV.N:AV T:=.cv (.lit (.slice none 0 0))
abbrev AV.P (id:Nat):AV T:=.cv (.ptr id 0)
end
section
variable {Tag:Type} {T:Tag→Type} {V:Wb T} {P:Program} {n m:Nat} {Γ:Ud} {S:St T} {Q:Exit→St T→Prop}
def St.ts (S:St T):List Nat:=S.tmps.map (·.1)
def St.ids (S:St T):List Nat:=S.heap.map (·.1)
theorem ar (L:V.E.Law V.isB V.toB) {id:Nat} {ops:Array Oper} (base:Nat) (decs:List (Nat×Bool)) (oras:List (Nat×AV T)) (effs:List (Nat×Ur T)) {cs:List Prop} {S':St T} (hcs:Us cs) (hQ:Q .normal S')
  (h:(Uy V P n m ops base decs oras effs 0 ops.toList S).map (fun p=>(p.1,(p.2.keep S'.ts S'.ids).co S'))=some (cs,S'):=by kernel_rfl):Ub V P n m Γ (.region id ops false) Q S:=Uw L base decs oras effs S'.ts S'.ids h hcs hQ
theorem Xi (L:V.E.Law V.isB V.toB) {id:Nat} {ops:Array Oper} (base:Nat) (decs:List (Nat×Bool)) (oras:List (Nat×AV T)) (effs:List (Nat×Ur T)) {S':St T} (hQ:Q .normal S')
  (h:(Uy V P n m ops base decs oras effs 0 ops.toList S).map (fun p=>(p.1,(p.2.keep S'.ts S'.ids).co S'))=some ([],S'):=by kernel_rfl):Ub V P n m Γ (.region id ops false) Q S:=Uw L base decs oras effs S'.ts S'.ids h trivial hQ
theorem ad (L:V.E.Law V.isB V.toB) (hm:P.follows .mixedOrders=true) {id:Nat} {ops:Array Oper} (base:Nat) (decs:List (Nat×Bool)) (oras:List (Nat×AV T)) (effs:List (Nat×Ur T)) (wids:List Nat) (d:Nat) {cs:List Prop} {S':St T} (hcs:Us cs) (hQ:Q .normal S')
  (h:(Wv V P n m ops base decs oras effs wids d S).map (fun p=>(p.1,(p.2.keep S'.ts S'.ids).co S'))=some (cs,S'):=by kernel_rfl):Ub V P n m Γ (.region id ops true) Q S:=Ac4 L hm base decs oras effs wids d S'.ts S'.ids h hcs hQ
theorem kp {c:Code} {S':St T} (h:Ub V P n m Γ c Q S') (hk:(S.keep S'.ts S'.ids).co S'=S':=by kernel_rfl):Ub V P n m Γ c Q S:=Aex hk h
theorem sk {S':St T} (h:Q .normal S') (hk:(S.keep S'.ts S'.ids).co S'=S':=by kernel_rfl):Ub V P n m Γ .skip Q S:=Z8 S'.ts S'.ids hk h
theorem ex {S':St T} {id:Nat} (h:Q (.exit id) S') (hk:(S.keep S'.ts S'.ids).co S'=S':=by kernel_rfl):Ub V P n m Γ (.exit id) Q S:=Aev S'.ts S'.ids hk h
theorem tt {c:Operand} {x y:Code} {b:Bool} (hb:b=true) (h:Ub V P n m Γ x Q S) (hc:S.get c=some (.cv (.lit (.bool b))):=by kernel_rfl):Ub V P n m Γ (.cond c x y) Q S:=X2 hc hb h
theorem ff {c:Operand} {x y:Code} {b:Bool} (hb:b=false) (h:Ub V P n m Γ y Q S) (hc:S.get c=some (.cv (.lit (.bool b))):=by kernel_rfl):Ub V P n m Γ (.cond c x y) Q S:=V2 hc hb h
theorem tT {c:Operand} {x y:Code} {p:Prop} [d:Decidable p] (hb:p) (h:Ub V P n m Γ x Q S) (hc:S.get c=some (.cv (.lit (.bool (decide p)))):=by kernel_rfl):Ub V P n m Γ (.cond c x y) Q S:=X2 hc (decide_eq_true hb) h
theorem fF {c:Operand} {x y:Code} {p:Prop} [d:Decidable p] (hb:¬ p) (h:Ub V P n m Γ y Q S) (hc:S.get c=some (.cv (.lit (.bool (decide p)))):=by kernel_rfl):Ub V P n m Γ (.cond c x y) Q S:=V2 hc (decide_eq_false hb) h
theorem fN {c:Operand} {x y:Code} {b:Bool} (hb:¬ b=true) (h:Ub V P n m Γ y Q S) (hc:S.get c=some (.cv (.lit (.bool b))):=by kernel_rfl):Ub V P n m Γ (.cond c x y) Q S:=V2 hc (eq_false_of_ne_true hb) h
theorem er {fn:Func} {r:AV T} {H':List (Nat×T9 T)} (x:AV T) (h1:Wq V.E P S fn=some x:=by kernel_rfl) (h2:Yz x r=r:=by kernel_rfl) (h3:(S.keep [] (H'.map (·.1))).co ⟨[],H'⟩=⟨[],H'⟩:=by kernel_rfl):Ty P V fn r H' .ret S:=⟨.inr rfl,x,h1,h2,h3⟩
theorem en {fn:Func} {r:AV T} {H':List (Nat×T9 T)} (x:AV T) (h1:Wq V.E P S fn=some x:=by kernel_rfl) (h2:Yz x r=r:=by kernel_rfl) (h3:(S.keep [] (H'.map (·.1))).co ⟨[],H'⟩=⟨[],H'⟩:=by kernel_rfl):Ty P V fn r H' .normal S:=⟨.inl rfl,x,h1,h2,h3⟩
theorem eo {f:FuncId} {fn:Func} {c:Code} {args:List (AV T)} {H:List (Nat×T9 T)} {fx:List Nat} {r:AV T} {H':List (Nat×T9 T)} (h:∀ Γ:Ud,Ub V P n m Γ c (Ty P V fn r H') ⟨Tx 0 args,H⟩) (hf:P.funcs[f]? = some fn:=by kernel_rfl) (hb:fn.body=some c:=by kernel_rfl) (hcal:U8 P f=true:=by kernel_rfl) (hn:fn.ntmps=n:=by rfl) (hle:Nat.ble args.length n=true:=by kernel_rfl)
  (hids:(H.all (fun p=>Nat.blt p.1 100) && fx.all (fun i=>Nat.blt i m))=true:=by kernel_rfl):Tv V P f args H fx r H':=Acn hf hb hcal hn hle hids h
theorem Tl.kp {S':St T} (hk:(S.keep S'.ts S'.ids).co S'=S':=by kernel_rfl):Tl V n m Γ S S':=Tl.keep S'.ts S'.ids hk
end
structure Le {α:Type} (a b:Option α):Prop where
 le:∀ r,a=some r→b=some r
theorem Le.refl {α:Type} (a:Option α):Le a a:=⟨fun _ h=>h⟩
theorem Le.none {α:Type} (b:Option α):Le none b:=⟨fun _ h=>by cases h⟩
theorem Le.bind {α β:Type} {a a':Option α} {f f':α→Option β} (h1:Le a a') (h2:∀ x,Le (f x) (f' x)):Le (Option.bind a f) (Option.bind a' f'):=by
 refine ⟨fun r h=>?_⟩;cases a with
 | none=>cases h
 | some x=>rw [h1.le x rfl]; exact (h2 x).le r h
theorem Le.obind {α β γ:Type} {a a':Option (T5 α β)} {d:α→γ} {f f':β→Option γ} (h1:Le a a') (h2:∀ x,Le (f x) (f' x)):Le (Eng.obind a d f) (Eng.obind a' d f'):=by
 refine ⟨fun r h=>?_⟩;cases a with
 | none=>cases h
 | some x =>
  rw [h1.le x rfl];cases x with
  | done a=>exact h
  | go x=>exact (h2 x).le r h
theorem Le.at {α:Type} {a b:Option α} {r:α} (h:Le a b) (e:a=some r):b=some r:=h.le r e
end Go.Proofs.YtifjagfmfkemmaaGreatDoor.Eng
namespace Go.Proofs.YtifjagfmfkemmaaGreatDoor.Eng
open Go.RowKit (Below)
open Go.ChangeMaps (setBlock)
theorem Acg:∀ {x y z:List UInt8},Op.bytesLess x y=true→Op.bytesLess y z=true→Op.bytesLess x z=true
 | [],_ :: _,_ :: _,_,_=>rfl
 | a :: x,b :: y,c :: z,h1,h2=>by
  simp only [Op.bytesLess,Bool.or_eq_true,Bool.and_eq_true,decide_eq_true_eq,beq_iff_eq] at h1 h2 ⊢;rcases h1 with h1 |⟨rfl,h1⟩
  ·rcases h2 with h2 |⟨rfl,h2⟩
   ·exact .inl (UInt8.lt_trans h1 h2)
   ·exact .inl h1
  ·rcases h2 with h2 |⟨rfl,h2⟩
   ·exact .inl h2
   ·exact .inr ⟨rfl,Acg h1 h2⟩
theorem Aci:∀ {x y:List UInt8},Op.bytesLess x y=false→x≠y→Op.bytesLess y x=true
 | [],[],_,h=>absurd rfl h
 | [],_ :: _,h,_=>by cases h
 | _ :: _,[],_,_=>rfl
 | a :: x,b :: y,h1,h2=>by
  simp only [Op.bytesLess,Bool.or_eq_false_iff,Bool.and_eq_false_iff,decide_eq_false_iff_not,beq_eq_false_iff_ne] at h1;simp only [Op.bytesLess,Bool.or_eq_true,Bool.and_eq_true,decide_eq_true_eq,beq_iff_eq];by_cases hab:a=b
  ·subst hab;rcases h1.2 with h | h
   ·exact absurd rfl h
   ·exact .inr ⟨rfl,Aci h fun e=>h2 (by rw [e])⟩
  ·left;have h3:=h1.1;rcases UInt8.lt_or_eq_of_le (UInt8.not_lt.1 h3) with h | h
   ·exact h
   ·exact absurd h.symm hab
def Vs {α:Type} (l:List (List UInt8×α)):Prop:=l.Pairwise fun p q=>Op.bytesLess p.1 q.1=true
theorem Vs.mdel {α:Type} {l:List (List UInt8×α)} (h:Vs l) (k:List UInt8):Vs (mdel k l):=List.Pairwise.filter _ h
theorem Vs.mins {α:Type} {p:List UInt8×α}:∀ {l:List (List UInt8×α)},Vs l→(∀ q∈l,q.1≠p.1)→Vs (mins p l)
 | [],_,_=>by unfold Eng.mins; exact List.pairwise_singleton _ _
 | q :: r,h,hn=>by
  obtain ⟨h1,h2⟩:=List.pairwise_cons.1 h;unfold Eng.mins;split
  ·rename_i hlt;exact List.pairwise_cons.2 ⟨fun x hx=>by
    rcases List.mem_cons.1 hx with rfl | hx
    ·exact hlt
    ·exact Acg hlt (h1 x hx),h⟩
  ·rename_i hlt;refine List.pairwise_cons.2 ⟨fun x hx=>?_,Vs.mins h2 fun y hy=>hn y (.tail _ hy)⟩;rcases List.mem_cons.1 ((Wt p r).mem_iff.1 hx) with rfl | hx
   ·exact Aci (by simpa using hlt) fun e=>hn q (.head _) e.symm
   ·exact h1 x hx
theorem Aew {α:Type} {k:List UInt8} {l:List (List UInt8×α)} {p:List UInt8×α}:p∈mdel k l↔p∈l∧p.1≠k:=by
 unfold mdel;rw [List.mem_filter];simp
theorem Vs.mput {α:Type} {l:List (List UInt8×α)} (h:Vs l) (k:List UInt8) (v:α):Vs (mput k v l):=(h.mdel k).mins fun q hq=>(Aew.1 hq).2
section
variable {Tag:Type} {T:Tag→Type} {V:Wb T} {P:Program} {n m:Nat} {Γ:Ud} {S:St T} {Q:Exit→St T→Prop}
end
end Go.Proofs.YtifjagfmfkemmaaGreatDoor.Eng
namespace Go.Proofs.YtifjagfmfkemmaaGreatDoor.Eng
open Go.RowKit (Below)
section
variable {Tag:Type} {T:Tag→Type}
variable {V:Wb T} {P:Program}
end
end Go.Proofs.YtifjagfmfkemmaaGreatDoor.Eng
