import Derived.Test.YtdgejpgbppfhmaaGreatDoorEngC
import Derived.Defers
import Derived.Recover
set_option linter.unusedVariables false
set_option linter.unusedSimpArgs false
namespace Go.Proofs.YtdgejpgbppfhmaaGreatDoor.Eng
open Go.RowKit (Below)
section
variable {Tag:Type} {T:Tag→Type}
inductive Uz (T:Tag→Type) where
 | ret (r:AV T)
 | pan (v:Value)
def Adf (V:V6 T) (P:Program) (f:FuncId) (args:List (AV T)) (H:List (Nat×T9 T)) (v:Value):Prop :=
 U7 P f=true∧∀ (w:World) (Z:Nat→Prop) (ρ:Nat→Option (Nat×Nat×Nat)) (vs:Array Value),ZOK V w Z→vs.size=args.length →
  (∀ (i:Nat) x v,args[i]? = some x→vs[i]? = some v→RA V.E w Z ρ x v)→Ae2 V.E w Z ρ H →
  Calls P f vs w fun e w'=>e=.panicked [{ v:=v,recovered:=false }]∧∃ Z',Afj w w' Z Z' (inH ρ H)
def Ug (V:V6 T) (P:Program) (f:FuncId) (args:List (AV T)) (H:List (Nat×T9 T)) (fx:List Nat) (H':List (Nat×T9 T)):Uz T→Prop
 | .ret r=>T1 V P f args H fx r H'
 | .pan v=>Adf V P f args H v
def Ui (P:Program) (V:V6 T) (fn:Func) (o:Uz T) (H':List (Nat×T9 T)) (e:Exit) (S:St T):Prop :=
 match o with
 | .ret r=>T2 P V fn r H' e S
 | .pan v=>e=.panic [{ v:=v,recovered:=false }]
variable {V:V6 T} {P:Program} {n m:Nat} {Γ:Ue} {S:St T} {Z:Nat→Prop} {ρ:Nat→Option (Nat×Nat×Nat)} {a:Act} {w:World}
theorem Afp {f:FuncId} {fn:Func} {c:Code} {args:List (AV T)} {H:List (Nat×T9 T)} {fx:List Nat} {o:Uz T} {H':List (Nat×T9 T)} (hf:P.funcs[f]? = some fn) (hb:fn.body=some c) (hcal:U7 P f=true) (hn:fn.ntmps=n) (hle:Nat.ble args.length n=true)
  (hids:(H.all (fun p=>Nat.blt p.1 100) && fx.all (fun i=>Nat.blt i m))=true)
  (h:∀ Γ:Ue,Uc V P n m Γ c (Ui P V fn o H') ⟨T0 0 args,H⟩):Ug V P f args H fx H' o:=by
 cases o with
 | ret r=>exact Ac7 hf hb hcal hn hle hids h
 | pan v =>
  refine ⟨hcal,fun w Z ρ vs hZ hsz hargs hH=>?_⟩;simp only [Bool.and_eq_true,List.all_eq_true] at hids
  let Γ:Ue:={ w0:=w,Z0:=Z,D:=fun id b=>id < 100∧∃ blk c,look id H=some blk∧ρ id=some (b,c),st:=fx.map fun i=>(i,ρ i) }
  refine calls_of_wp hf hb ?_;have ha:Ul V n m Γ ⟨T0 0 args,H⟩ Z ρ { tmps:=vs++Array.replicate (fn.ntmps - vs.size) undef,defers:=[] } w:={
   defers:=rfl
   size:=by have:=Nat.le_of_ble_eq_true hle; simp [hn]; omega
   tmps:=fun t v hv=>by
    obtain ⟨_,hv⟩:=Ww args 0 t v hv;simp only [Nat.sub_zero] at hv;have ht:t < vs.size:=by rw [hsz]; exact (List.getElem?_eq_some_iff.1 hv).1
    have:=hargs t v vs[t] hv (by simp [ht])
    have e:(vs++Array.replicate (fn.ntmps - vs.size) undef).getD t undef=vs[t]:=by
     rw [Array.getD_eq_getD_getElem?,Array.getElem?_append_left ht]; simp [ht]
    rw [e]; exact this
   os:=rfl
   tape:=rfl
   output:=rfl
   hsize:=Nat.le_refl _
   old:=fun _ _ _=>rfl
   stm:=fun p hp=>by
    obtain ⟨i,hi,rfl⟩:=List.mem_map.1 hp
    have:=hids.2 i hi
    exact Nat.le_of_ble_eq_true this
   dlt:=fun _ _ h=>h.1
   st:=fun p hp=>by
    obtain ⟨i,hi,rfl⟩:=List.mem_map.1 hp;rfl
   Z0:=fun _ h=>h
   Zold:=fun _ h _=>h
   Zlt:=hZ.lt
   glb:=hZ.glb
   own:=fun id blk b c hl hr=>by
    obtain ⟨h1,h2⟩:=hH.own id blk b c hl hr
    have:=hids.1 (id,blk) (Wn hl)
    exact ⟨h1,h2,.inr ⟨Nat.le_of_ble_eq_true this,blk,c,hl,hr⟩⟩
   inj:=hH.inj
   blk:=hH.blk }
  refine Code.wp_mono (fun e a' w' hq=>?_) (h Γ Z ρ _ w ha);obtain ⟨S',Z',ρ',he,ha'⟩:=hq;have he:e=.panic [{ v:=v,recovered:=false }]:=he;subst he;refine ⟨ha'.defers,rfl,Z',ha'.os,ha'.tape,ha'.output,ha'.hsize,fun b hb hn=>ha'.old b hb fun id hd=>hn ?_,fun b hb=>ha'.Z0 b hb,fun b hb=>?_⟩
  ·obtain ⟨_,blk,c,h4,h5⟩:=hd;exact ⟨id,blk,c,h4,h5⟩
  ·rcases Nat.lt_or_ge b w.heap.size with hlt | hge
   ·exact .inl (ha'.Zold b hb hlt)
   ·exact .inr ⟨hge,ha'.Zlt b hb⟩
def Aab (vals:List Nat) (kids:List Nat) (S:St T):Bool :=
 kids.all fun i=>!Uf i vals && (match look i S.heap with | some b=>b.inB (fun _=>false) | none=>false)
theorem Yu {α:Type} {t:Nat} {v:α}:∀ (ids:List Nat) (l:List (Nat×α)),look t (U4 ids l)=some v→t∈ids
 | [],l,h=>by cases h
 | i :: is,l,h=>by
  unfold U4 at h;split at h
  ·rw [T6] at h;split at h
   ·rename_i e; rw [e]; exact .head _
   ·exact .tail _ (Yu is l h)
  ·exact .tail _ (Yu is l h)
theorem Ac6 (ha:Ul V n m Γ S Z ρ a w) {H:List (Nat×T9 T)} {f:Nat→Nat} {w':World} {Z':Nat→Prop} {vals:List Nat} (hp:Afj w w' Z Z' (inH (fun i=>ρ (f i)) H)) (hH:∀ i blk,look i H=some blk→(∃ b0,look (f i) S.heap=some b0)∧Uf (f i) vals=true)
  {tks kids:List Nat} (hk:Aab vals kids S=true):Ul V n m Γ ⟨U4 tks S.tmps,U4 kids S.heap⟩ Z' ρ a w':=by
 have hZw:∀ b,Z b→w'.heap[b]? = w.heap[b]?:=fun b hb=>hp.block b (ha.Zlt b hb) fun ⟨i,blk,c,h1,h2⟩=>by obtain ⟨⟨b0,h0⟩,_⟩:=hH i blk h1; exact (ha.own _ _ b c h0 h2).2.1 hb
 have hkid:∀ id blk,look id (U4 kids S.heap)=some blk→Uf id vals=false∧blk.inB (fun _=>false)=true:=fun id blk hl=>by
  have h1:=List.all_eq_true.1 hk id (Yu _ _ hl);have h2:=Um id kids _ _ hl;rw [h2] at h1;simp only [Bool.and_eq_true,Bool.not_eq_true'] at h1;exact h1
 exact {
  defers:=ha.defers
  size:=ha.size
  tmps:=fun t x hx=>(ha.tmps t x (Um t tks _ _ hx)).mono V.E hp.sub hZw fun _ _=>rfl
  os:=hp.os.trans ha.os
  tape:=hp.tape.trans ha.tape
  output:=hp.output.trans ha.output
  hsize:=Nat.le_trans ha.hsize hp.size
  old:=fun b hb hD=>by
   refine (hp.block b (Nat.lt_of_lt_of_le hb ha.hsize) ?_).trans (ha.old b hb hD);rintro ⟨i,blk,c,h1,h2⟩;obtain ⟨⟨b0,h0⟩,_⟩:=hH i blk h1;rcases (ha.own _ _ b c h0 h2).2.2 with h | h
   ·omega
   ·exact hD _ h
  stm:=ha.stm
  st:=ha.st
  dlt:=ha.dlt
  Z0:=fun b hb=>hp.sub b (ha.Z0 b hb)
  Zold:=fun b hb hlt=>by
   rcases hp.fresh b hb with h | h
   ·exact ha.Zold b h hlt
   ·have:=ha.hsize; omega
  glb:=ha.glb.mono hp.sub hZw
  Zlt:=fun b hb=>by
   rcases hp.fresh b hb with h | h
   ·exact Nat.lt_of_lt_of_le (ha.Zlt b h) hp.size
   ·exact h.2
  own:=fun id blk b c hl hr=>by
   obtain ⟨h1,h2,h3⟩:=ha.own id blk b c (Um id kids _ _ hl) hr;refine ⟨Nat.lt_of_lt_of_le h1 hp.size,fun hz=>?_,h3⟩;rcases hp.fresh b hz with h | h
   ·exact h2 h
   ·omega
  inj:=fun id id' blk blk' b c c' h1 h2=>ha.inj id id' blk blk' b c c' (Um id kids _ _ h1) (Um id' kids _ _ h2)
  blk:=fun id blk hl=>by
   have hl0:=Um id kids _ _ hl;obtain ⟨h1,h2⟩:=hkid id blk hl;refine BR.mono hp.sub hZw (fun b c hbc=>hp.block b (ha.own id blk b c hl0 hbc).1 ?_) (ha.blk id blk hl0) fun j hj=>?_
   ·rintro ⟨i,blk',c',h3,h4⟩;obtain ⟨⟨b0,h0⟩,h5⟩:=hH i blk' h3
    have:=ha.inj _ _ _ _ b _ _ h0 hl0 h4 hbc
    rw [this,h1] at h5;cases h5
   ·have:=T9.inB_names h2 hj
    cases this }
def Xz (V:V6 T) (P:Program) (m:Nat) (S:St T) (e:Ut T) (v:Value) (kids:List Nat) (o:Oper):Option Prop :=
 match o.op with
 | .call c=>match c.callee with
  | .value f=>match S.get f,Zm S.get c.args.toList,Acp e.g e.f S.heap e.hids with
   | some (.cv (.fn (.func fid) fs caps)),some args,some H =>
    let all:=fs.map AV.cv++(args++caps.map AV.cv)
    let vals:=e.σ.map (·.2)
    bif (e.ok m && AV.inB.inL (fun j=>Uf j vals) all && e.hids.all (fun i=>match look (e.f i) S.heap with | some b=>b.inB (fun j=>Uf j vals) | none=>false)) && Aab vals kids S then
     some (Adf V P fid (AV.ren.renL e.g all) H v) else none
   | _,_,_=>none
  | _=>none
 | .panic x=>match S.get x with
  | some (.cv (.ifc t true cs))=>bif Aab [] kids S then (litsV cs).map fun us=>v=.iface t (.agg us.toArray) else none
  | _=>none
 | _=>none
where litsV:List (CV T)→Option (List Value)
 | []=>some []
 | .lit u :: cs=>(litsV cs).map (u :: ·)
 | _=>none
theorem Za {E:Uv T} {w:World} {Z:Nat→Prop} {ρ:Nat→Option (Nat×Nat×Nat)}:∀ (cs:List (CV T)) (us:List Value) (vs:List Value),Xz.litsV cs=some us→vs.length=cs.length→(∀ (i:Nat) c v,cs[i]? = some c→vs[i]? = some v→RC E w Z ρ c v)→vs=us
 | [],us,vs,h,hl,_=>by cases h; exact List.length_eq_zero_iff.1 hl
 | c :: cs,us,vs,h,hl,hr=>by
  cases c with
  | lit u =>
   unfold Xz.litsV at h;rw [Option.map_eq_some_iff] at h;obtain ⟨us',h1,rfl⟩:=h;cases vs with
   | nil=>simp at hl
   | cons x xs =>
    have h0:=hr 0 (.lit u) x rfl rfl
    have:x=u:=by
     cases h0 with | pure h0=>cases h0 with | lit h=>rfl
    subst this;rw [Za cs us' xs h1 (by simpa using hl) fun i c v hc hv=>hr (i+1) c v (by simpa using hc) (by simpa using hv)]
  | _=>unfold Xz.litsV at h; cases h
theorem Yf {e:Ut T} {v:Value} {tks kids:List Nat} {o:Oper} {p:Prop} (h:Xz V P m S e v kids o=some p) (hp:p) (ha:Ul V n m Γ S Z ρ a w) {next:Act→World→Prop} {Q:Exit→Act→World→Prop}
  (hQ:∀ w' Z',Ul V n m Γ ⟨U4 tks S.tmps,U4 kids S.heap⟩ Z' ρ a w'→Q (.panic [{ v:=v,recovered:=false }]) a w'):o.wp P a w next Q:=by
 unfold Xz at h;split at h
 ·rename_i c hop;split at h
  ·rename_i f hcal;split at h
   ·rename_i fid fs caps args H hf hargs hpick;dsimp only at h;generalize hall:fs.map AV.cv++(args++caps.map AV.cv)=all at h;cases hb:((e.ok m && AV.inB.inL (fun j=>Uf j (e.σ.map (·.2))) all && e.hids.all (fun i=>match look (e.f i) S.heap with | some b=>b.inB (fun j=>Uf j (e.σ.map (·.2))) | none=>false)) && Aab (e.σ.map (·.2)) kids S) with
    | false=>rw [hb] at h; cases h
    | true =>
     rw [hb] at h;cases h;simp only [Bool.and_eq_true] at hb;obtain ⟨⟨⟨hb1,hb2⟩,hb3⟩,hb4⟩:=hb;have hP:Adf V P fid (AV.ren.renL e.g all) H v:=hp;have hpl:=X0 hpick;have hfv:=ha.get f _ hf;generalize heval:a.eval f=fv at hfv;cases hfv with | cv hfv =>
     cases hfv with
     | pure hfv=>cases hfv
     | @fn _ _ _ fvs cvs h1 h2 h3 h4 =>
      obtain ⟨g1,g2⟩:=Vt (w:=w) (Z:=Z) (ρ:=ρ) (a:=a) ha.get _ _ hargs;have hsz:(fvs++(c.args.map a.eval++cvs)).size=all.length:=by
       rw [← hall]; simp at g1; simp [h1,h2,g1]
      have hrel:∀ (i:Nat) x v,all[i]? = some x→(fvs++(c.args.map a.eval++cvs))[i]? = some v→RA V.E w Z ρ x v:=by
       intro i x v hx hv;rw [← hall] at hx;by_cases hi:i < fs.length
       ·rw [List.getElem?_append_left (by simpa using hi)] at hx;rw [Array.getElem?_append_left (by omega)] at hv;simp only [List.getElem?_map,Option.map_eq_some_iff] at hx;obtain ⟨d,hd,rfl⟩:=hx;exact .cv (h3 i d v hd hv)
       ·rw [List.getElem?_append_right (by simp; omega)] at hx;rw [Array.getElem?_append_right (by omega)] at hv;simp only [List.length_map] at hx;rw [h1] at hv;have hal:c.args.size=args.length:=by simpa using g1
        by_cases hi2:i - fs.length < args.length
        ·rw [List.getElem?_append_left hi2] at hx;rw [Array.getElem?_append_left (by simp; omega)] at hv;refine g2 _ x v hx ?_;rw [← Array.toList_map,Array.getElem?_toList]; exact hv
        ·rw [List.getElem?_append_right (by omega)] at hx;rw [Array.getElem?_append_right (by simp; omega)] at hv;simp only [List.getElem?_map,Option.map_eq_some_iff] at hx;obtain ⟨d,hd,rfl⟩:=hx;refine .cv (h4 _ d v hd ?_);rw [← hv]; congr 1; simp; omega
      have hrun:(execOp a.eval o).run P w=.ok (.enter fid (fvs++(c.args.map a.eval++cvs))) w:=by
       unfold execOp;rw [hop];simp only [resolve,hcal,heval,Deferred.ofValue,Sem.run_bind,Sem.run_pure,Result.andThen,invoke];rw [Vj hP.1,Array.append_assoc]
      have hok:=hb1;unfold Ut.ok at hok;simp only [Bool.and_eq_true,List.all_eq_true,Bool.or_eq_true] at hok;obtain ⟨⟨⟨⟨⟨⟨⟨k1,k2⟩,k3⟩,k4⟩,k5⟩,k6⟩,k7⟩,k8⟩:=hok;have hfg:∀ j,Uf j (e.σ.map (·.2))=true→ρ (e.f (e.g j))=ρ j:=fun j hj=>by rw [Ut.f_g k1 hj]
      have hrel2:∀ (i:Nat) x v,(AV.ren.renL e.g all)[i]? = some x→(fvs++(c.args.map a.eval++cvs))[i]? = some v→RA V.E w Z (fun i=>ρ (e.f i)) x v:=by
       intro i x v hx hv;rw [Xl,Option.map_eq_some_iff] at hx;obtain ⟨y,hy,rfl⟩:=hx;exact RA.ren (ρ:=fun i=>ρ (e.f i)) (f:=e.g) ((hrel i y v hy hv).mono V.E (fun _ h=>h) (fun _ _=>rfl) (ρ':=fun j=>ρ (e.f (e.g j))) fun id hid=>hfg id (AV.inB_names (AV.inL_get hb2 hy) hid))
      have hHR:Ae2 V.E w Z (fun i=>ρ (e.f i)) H:={
       own:=fun i blk b c hl hr=>by
        obtain ⟨_,b0,e0,_⟩:=hpl i blk hl;obtain ⟨e1,e2,_⟩:=ha.own _ _ b c e0 hr; exact ⟨e1,e2⟩
       inj:=fun i i' blk blk' b c c' hl hl' hr hr'=>by
        obtain ⟨m1,b0,e0,_⟩:=hpl i blk hl;obtain ⟨m2,b0',e0',_⟩:=hpl i' blk' hl'
        have:=ha.inj _ _ _ _ b c c' e0 e0' hr hr'
        have e1:=Ut.inv_f k1 k2 (k5 _ m1);have e2:=Ut.inv_f k1 k2 (k5 _ m2);rw [this,e2] at e1;exact (Option.some.inj e1).symm
       blk:=fun i blk hl=>by
        obtain ⟨m1,b0,e0,rfl⟩:=hpl i blk hl;have hc:b0.inB (fun j=>Uf j (e.σ.map (·.2)))=true:=by
         have:=List.all_eq_true.1 hb3 i m1
         rw [e0] at this;exact this
        exact BR.ren (ρ:=fun i=>ρ (e.f i)) (f:=e.g) (BR.mono (fun _ h=>h) (fun _ _=>rfl) (fun _ _ _=>rfl) (ha.blk _ _ e0) (ρ':=fun j=>ρ (e.f (e.g j))) fun id hid=>hfg id (T9.inB_names hc hid)) }
      unfold Oper.wp;rw [hrun];show Calls P fid _ w _;refine (hP.2 w Z (fun i=>ρ (e.f i)) _ ha.zok (by rw [hsz,Xk]) hrel2 hHR).mono fun en w' he=>?_
      obtain ⟨rfl,Z',hp⟩:=he;exact hQ w' Z' (Ac6 ha hp (fun i blk hl=>by
       obtain ⟨m1,b0,e0,_⟩:=hpl i blk hl;refine ⟨⟨b0,e0⟩,?_⟩;have h5:=U9 (k5 i m1);obtain ⟨⟨i',j⟩,hm,rfl⟩:=List.mem_map.1 h5;rw [Ut.f_mem k1 hm];exact V5 (List.mem_map.2 ⟨_,hm,rfl⟩)) hb4)
   ·cases h
  ·cases h
 ·rename_i x hop;split at h
  ·rename_i t cs hx;cases hk:Aab [] kids S with
   | false=>rw [hk] at h; cases h
   | true =>
   rw [hk] at h;simp only [cond_true] at h;rw [Option.map_eq_some_iff] at h;obtain ⟨us,h1,rfl⟩:=h;have hv:=ha.get x _ hx;generalize heval:a.eval x=xv at hv;cases hv with | cv hv =>
   cases hv with
   | pure hv=>cases hv
   | @ifca _ _ vs h2 h3 =>
    have e:=Za cs us vs.toList h1 (by simpa using h2) fun i c v hc hv=>h3 i c v hc (by simpa using hv)
    have hp:v=.iface t (.agg us.toArray):=hp;have hrun:(execOp a.eval o).run P w=.halt (.panic v) w:=by
     unfold execOp;rw [hop];simp only [heval];rw [hp,← e];rfl
    unfold Oper.wp;rw [hrun];exact hQ w Z (Ac6 ha (f:=id) (H:=[]) ⟨rfl,rfl,rfl,Nat.le_refl _,fun _ _ _=>rfl,fun _ h=>h,fun _ h=>.inl h⟩ (fun i blk hl=>by cases hl) hk)
  ·cases h
 ·cases h
theorem Abf (L:V.E.Law V.isB V.toB) {ops:Array Oper} {base:Nat} {decs:List (Nat×Bool)} {oras:List (Nat×AV T)} {effs:List (Nat×Ut T)} {Q:Exit→Act→World→Prop} {rest2:List Oper}:∀ (l:List Oper) (i:Nat) (S:St T) (Z:Nat→Prop) (ρ:Nat→Option (Nat×Nat×Nat)) (a:Act) (w:World) (cs:List Prop) (S':St T),
  U3 V P n m ops base decs oras effs i l S=some (cs,S')→Us cs→Ul V n m Γ S Z ρ a w→(∀ a' w' Z' ρ',Ul V n m Γ S' Z' ρ' a' w'→wpList P ops Q rest2 a' w')→wpList P ops Q (l++rest2) a w
 | [],i,S,Z,ρ,a,w,cs,S',h,hcs,ha,hQ=>by cases h; exact hQ _ _ _ _ ha
 | o :: rest,i,S,Z,ρ,a,w,cs,S',h,hcs,ha,hQ=>by
  unfold U3 at h;split at h
  ·rename_i cs1 S1 h1;split at h
   ·rename_i cs2 S2 h2;cases h;obtain ⟨hc1,hc2⟩:=hcs.append
    have:=V8 V L (K:=wpList P ops Q (rest++rest2)) (Q:=Q) h1 hc1 ha fun a' w' Z' ρ' ha'=>Abf L rest (i+1) S1 Z' ρ' a' w' cs2 S' h2 hc2 ha' hQ
    rw [List.cons_append];unfold wpList;split
    ·rename_i hw; rw [if_pos hw] at this; exact .inl this
    ·rename_i hw; rw [if_neg hw] at this; exact this
   ·cases h
  ·cases h
def Abz (V:V6 T) (P:Program) (n m:Nat) (ops:Array Oper) (base:Nat) (decs:List (Nat×Bool)) (oras:List (Nat×AV T)) (effs:List (Nat×Ut T)) (i:Nat) (e:Ut T) (v:Value) (tks kids:List Nat) (S:St T):Option (List Prop×St T) :=
 match U3 V P n m ops base decs oras effs 0 (ops.toList.take i) S with
 | some (cs,S1)=>match ops[i]? with
  | some o=>match evG ops o S1,Xz V P m S1 e v kids o with
   | some true,some p=>some (cs++[p],⟨U4 tks S1.tmps,U4 kids S1.heap⟩)
   | _,_=>none
  | none=>none
 | none=>none
theorem Ad7 (L:V.E.Law V.isB V.toB) {Q:Exit→St T→Prop} {id:Nat} {ops:Array Oper} (base:Nat) (decs:List (Nat×Bool)) (oras:List (Nat×AV T)) (effs:List (Nat×Ut T)) (i:Nat) (e:Ut T) (v:Value) (tks kids:List Nat) {cs:List Prop} {S':St T}
  (h:Abz V P n m ops base decs oras effs i e v tks kids S=some (cs,S')) (hcs:Us cs) (hQ:Q (.panic [{ v:=v,recovered:=false }]) S'):Uc V P n m Γ (.region id ops false) Q S:=by
 intro Z ρ a w ha;unfold Abz at h;split at h
 ·rename_i cs1 S1 h1;split at h
  ·rename_i o ho;split at h
   ·rename_i p hg hx;cases h;obtain ⟨hc1,hc2⟩:=hcs.append;have hsplit:ops.toList=ops.toList.take i++o :: ops.toList.drop (i+1):=by
     have hi:i < ops.size:=(Array.getElem?_eq_some_iff.1 ho).1
     have:ops.toList.drop i=o :: ops.toList.drop (i+1):=by
      rw [List.drop_eq_getElem_cons (by simpa using hi)]
      congr 1
      have:=(Array.getElem?_eq_some_iff.1 ho).2
      simpa using this
     rw [← this,List.take_append_drop]
    refine wp_region_list ?_;rw [hsplit];refine Abf L _ 0 S Z ρ a w cs1 S1 h1 hc1 ha fun a' w' Z' ρ' ha'=>?_
    unfold wpList;rw [Vq V hg ha',if_pos rfl];exact .inl (Yf hx hc2 ha' fun w2 Z2 h2=>⟨_,Z2,ρ',hQ,h2⟩)
   ·cases h
  ·cases h
 ·cases h
end
end Go.Proofs.YtdgejpgbppfhmaaGreatDoor.Eng
namespace Go.Proofs.YtdgejpgbppfhmaaGreatDoor.Eng
open Go.RowKit (Below)
def Y3:Op→Option (List Operand)
 | .move x | .assign x=>some [x]
 | .pick c a b=>some [c,a,b]
 | .alloc _=>some []
 | .box _ x=>some [x]
 | .build _ ps=>some (ps.toList.map (·.2))
 | .buildSlice _ _ ps=>some (ps.toList.map (·.2))
 | .load _ a=>some [a]
 | .store _ a x=>some [a,x]
 | .binOp _ _ x y _=>some [x,y]
 | .unOp _ _ x=>some [x]
 | .convert _ _ x=>some [x]
 | .makeInterface _ x=>some [x]
 | .makeFunc _ f c=>some (f.toList++c.toList)
 | .slice _ x lo hi mx=>some (x ::(lo.toList++(hi.toList++mx.toList)))
 | .fieldAddr _ x _=>some [x]
 | .field _ x _=>some [x]
 | .indexAddr _ x y=>some [x,y]
 | .index _ x y=>some [x,y]
 | .extract x _=>some [x]
 | .panic x=>some [x]
 | .call c=>match c.callee with
  | .builtin _=>some c.args.toList
  | .value f=>some (f :: c.args.toList)
  | _=>none
 | _=>none
theorem Yn {ρ ρ':Operand→Value} {o:Option Operand} (h:∀ x∈o.toList,ρ x=ρ' x):o.map ρ=o.map ρ':=by
 cases o with
 | none=>rfl
 | some x=>simp only [Option.map_some]; rw [h x (by simp)]
theorem Xi {ρ ρ':Operand→Value} {as:Array Operand} (h:∀ x∈as.toList,ρ x=ρ' x):as.map ρ=as.map ρ' :=
 Array.map_congr_left fun x hx=>h x (Array.mem_toList_iff.2 hx)
theorem Y0 {ρ ρ':Operand→Value} {as:Array (Nat×Operand)} (h:∀ x∈as.toList.map (·.2),ρ x=ρ' x):(as.map fun (i,x)=>(i,ρ x))=as.map fun (i,x)=>(i,ρ' x) :=
 Array.map_congr_left fun p hp=>by
  have:=h p.2 (List.mem_map.2 ⟨p,Array.mem_toList_iff.2 hp,rfl⟩)
  obtain ⟨i,x⟩:=p;simp only at this ⊢;rw [this]
theorem Aby {ρ ρ':Operand→Value} {o:Oper} {l:List Operand} (h:Y3 o.op=some l) (hl:∀ x∈l,ρ x=ρ' x):execOp ρ o=execOp ρ' o:=by
 unfold execOp;cases hop:o.op with
 | move x=>rw [hop] at h; cases h; simp only [hl x (.head _)]
 | assign x=>rw [hop] at h; cases h; simp only [hl x (.head _)]
 | pick c a b=>rw [hop] at h; cases h; simp only [hl c (.head _),hl a (.tail _ (.head _)),hl b (.tail _ (.tail _ (.head _)))]
 | alloc t=>rfl
 | box t x=>rw [hop] at h; cases h; simp only [hl x (.head _)]
 | build t ps=>rw [hop] at h; cases h; simp only [Y0 hl]
 | buildSlice t n ps=>rw [hop] at h; cases h; simp only [Y0 hl]
 | load t x=>rw [hop] at h; cases h; simp only [hl x (.head _)]
 | store t x y=>rw [hop] at h; cases h; simp only [hl x (.head _),hl y (.tail _ (.head _))]
 | binOp op t x y t2=>rw [hop] at h; cases h; simp only [hl x (.head _),hl y (.tail _ (.head _))]
 | unOp op t x=>rw [hop] at h; cases h; simp only [hl x (.head _)]
 | convert s d x=>rw [hop] at h; cases h; simp only [hl x (.head _)]
 | makeInterface t x=>rw [hop] at h; cases h; simp only [hl x (.head _)]
 | makeFunc f a b =>
  rw [hop] at h; cases h;simp only [Xi fun x hx=>hl x (List.mem_append_left _ hx),Xi fun x hx=>hl x (List.mem_append_right _ hx)]
 | slice t x lo hi mx =>
  rw [hop] at h; cases h;simp only [hl x (.head _),Yn fun x hx=>hl x (.tail _ (List.mem_append_left _ hx)),Yn fun x hx=>hl x (.tail _ (List.mem_append_right _ (List.mem_append_left _ hx))),Yn fun x hx=>hl x (.tail _ (List.mem_append_right _ (List.mem_append_right _ hx)))]
 | fieldAddr t x f=>rw [hop] at h; cases h; simp only [hl x (.head _)]
 | field t x f=>rw [hop] at h; cases h; simp only [hl x (.head _)]
 | indexAddr t x y=>rw [hop] at h; cases h; simp only [hl x (.head _),hl y (.tail _ (.head _))]
 | index t x y=>rw [hop] at h; cases h; simp only [hl x (.head _),hl y (.tail _ (.head _))]
 | extract x i=>rw [hop] at h; cases h; simp only [hl x (.head _)]
 | panic x=>rw [hop] at h; cases h; simp only [hl x (.head _)]
 | call c =>
  rw [hop] at h;simp only [Y3] at h;have hr:resolve ρ c o.type=resolve ρ' c o.type:=by
   unfold resolve;cases hc:c.callee with
   | builtin b =>
    rw [hc] at h; cases h;simp only [Xi fun x hx=>hl x hx]
   | value f =>
    rw [hc] at h; cases h;simp only [hl f (.head _),Xi fun x hx=>hl x (.tail _ hx)]
   | invoke x n=>rw [hc] at h; cases h
  simp only [hr]
 | _=>first | rfl |(rw [hop] at h; cases h)
def Af4:Operand→Option Tmp
 | .tmp t=>some t
 | _=>none
def looksAt (ops:Array Oper) (o:Oper) (d:Tmp):Bool :=
 (match Y3 o.op with
 | some l=>l.any fun x=>match Af4 x with | some t=>Nat.beq t d | none=>false
 | none=>true) ||
 (match o.guard with
 | some (j,_)=>match (ops[j]?).bind (·.dst) with | some t=>Nat.beq t d | none=>false
 | none=>false)
theorem V2 {ops:Array Oper} {o:Oper} {a b:Act} (hd:∀ t,looksAt ops o t=true→a.tmps.getD t undef=b.tmps.getD t undef) (hn:∃ l,Y3 o.op=some l):execOp a.eval o=execOp b.eval o:=by
 obtain ⟨l,hl⟩:=hn;refine Aby hl fun x hx=>?_
 cases x with
 | tmp t =>
  refine hd t ?_;unfold looksAt;rw [hl];simp only [Bool.or_eq_true,List.any_eq_true];exact .inl ⟨.tmp t,hx,by simp [Af4]⟩
 | const v=>rfl
 | global g=>rfl
 | func f=>rfl
theorem Aah {ops:Array Oper} {o:Oper} {a b:Act} (hs:a.tmps.size=b.tmps.size) (hd:∀ t,looksAt ops o t=true→a.tmps.getD t undef=b.tmps.getD t undef):Region.wanted o (yielded ops a.tmps)=Region.wanted o (yielded ops b.tmps):=by
 unfold Region.wanted;cases hg:o.guard with
 | none=>rfl
 | some p =>
  obtain ⟨j,want⟩:=p
  have:yielded ops a.tmps j=yielded ops b.tmps j:=by
   unfold yielded;cases hj:(ops[j]?).bind (·.dst) with
   | none=>rfl
   | some t =>
    have h:=hd t (by unfold looksAt; rw [hg]; simp [hj])
    have:a.tmps[t]? = b.tmps[t]?:=by
     rw [Array.getD_eq_getD_getElem?,Array.getD_eq_getD_getElem?] at h;by_cases ht:t < a.tmps.size
     ·have ht2:t < b.tmps.size:=hs ▸ ht;simp [ht,ht2] at h ⊢;exact h
     ·have ht2:¬ t < b.tmps.size:=hs ▸ ht;simp [ht,ht2]
    simp only [Option.bind_some,this]
  simp only [this]
def isHo:Op→Bool
 | .move _ | .assign _ | .fieldAddr _ _ _=>true
 | _=>false
section
variable {Tag:Type} {T:Tag→Type} (V:V6 T)
variable {P:Program} {n m:Nat} {Γ:Ue} {S:St T} {Z:Nat→Prop} {ρ:Nat→Option (Nat×Nat×Nat)} {a:Act} {w:World}
def evHo (P:Program) (S:St T) (o:Oper):Option (AV T) :=
 match o.op with
 | .move x | .assign x=>S.get x
 | .fieldAddr s x f=>match S.get x with
  | some v=>(Vh P s f v).map (·.2)
  | none=>none
 | _=>none
theorem Zd {s:TypeId} {f:Nat} {x r:AV T} {cs:List Prop} {v:Value} (h:Vh P s f x=some (cs,r)) (hx:RA V.E w Z ρ x v) :
  ∃ u,(∀ w',(Instr.fieldAt s v f).run P w'=.ok u w')∧RA V.E w Z ρ r u:=by
 obtain ⟨u,h1,h2⟩:=Wl V.E h hx;refine ⟨u,fun w'=>?_,h2⟩;unfold Vh at h;split at h
 ·split at h
  ·rename_i id off o ho;cases hx with | cv hc =>
   cases hc with
   | pure hp=>cases hp
   | ptr hr =>
    rw [Un ho] at h1;cases h1;exact Un ho _
  ·cases h
 ·split at h
  ·rename_i t id i off o ho;cases hx with | cv hc =>
   cases hc with
   | pure hp=>cases hp
   | pel hr =>
    rw [Un ho] at h1;cases h1;exact Un ho _
  ·cases h
 ·split at h
  ·rename_i cs' off o ho;cases hx with | cv hc =>
   cases hc with
   | pure hp =>
    cases hp with
    | pcs _ _ a u hz hcell hrel =>
     rw [Un ho] at h1;cases h1;exact Un ho _
   | pcs _ _ a u hz hcell hrel =>
    rw [Un ho] at h1;cases h1;exact Un ho _
  ·cases h
 ·cases h
theorem Ady {o:Oper} {r:AV T} (h:evHo P S o=some r) (ha:Ul V n m Γ S Z ρ a w):∃ v,(∀ w',(execOp a.eval o).run P w'=.ok (.value v) w')∧RA V.E w Z ρ r v:=by
 unfold evHo at h;split at h
 ·rename_i x hop;exact ⟨a.eval x,fun w'=>by unfold execOp; rw [hop]; rfl,ha.get x r h⟩
 ·rename_i x hop;exact ⟨a.eval x,fun w'=>by unfold execOp; rw [hop]; rfl,ha.get x r h⟩
 ·rename_i s x f hop;split at h
  ·rename_i v hv;rw [Option.map_eq_some_iff] at h;obtain ⟨⟨cs,r'⟩,h1,rfl⟩:=h;obtain ⟨u,h2,h3⟩:=Zd V h1 (ha.get x v hv);exact ⟨u,fun w'=>by unfold execOp; rw [hop]; simp only [Sem.run_bind,h2 w',Result.andThen]; rfl,h3⟩
  ·cases h
 ·cases h
def hoL (P:Program) (n:Nat) (ops:Array Oper):List Nat→St T→Option (St T)
 | [],S=>some S
 | i :: is,S=>match ops[i]? with
  | some o=>match evHo P S o with
   | some r=>bif Xw n o.dst then hoL P n ops is (S.put o.dst r) else none
   | none=>none
  | none=>none
def Zg:List Nat→Bool
 | []=>true
 | x :: r=>r.all (Nat.blt x) && Zg r
theorem Yl:∀ {l:List Nat},Zg l=true→l.Pairwise (· < ·)
 | [],_=>List.Pairwise.nil
 | x :: r,h=>by
  simp only [Zg,Bool.and_eq_true] at h;exact List.Pairwise.cons (fun y hy=>Nat.le_of_ble_eq_true (List.all_eq_true.1 h.1 y hy)) (Yl h.2)
def Adj (ops:Array Oper) (A:List Nat):Bool :=
 let M:=Vw ops.toList []
 V3 0 ops.toList && Zg A &&
 A.all (fun i=>match ops[i]? with
  | some o=>o.guard.isNone && isHo o.op && (match o.dst with
   | some d=>!looksAt ops o d && (List.range ops.size).all (fun k=>Nat.beq k i ||(match ops[k]? with
    | some q=>(match q.dst with
      | some e=>!Nat.beq e d && (Uf k A || !looksAt ops o e)
      | none=>true) && (!looksAt ops q d ||(bit M k i && Nat.blt i k))
    | none=>true))
   | none=>false)
  | none=>false)
structure HoF (ops:Array Oper) (A:List Nat):Prop where
 edges:V3 0 ops.toList=true
 sorted:A.Pairwise (· < ·)
 ho:∀ i∈A,∃ o d,ops[i]? = some o∧o.guard=none∧isHo o.op=true∧o.dst=some d∧looksAt ops o d=false ∧
  (∀ k q,k≠i→ops[k]? = some q→q.dst≠some d∧(looksAt ops q d=true→bit (Vw ops.toList []) k i=true∧i < k)∧(∀ e,q.dst=some e→k ∉ A→looksAt ops o e=false))
theorem Aep {ops:Array Oper} {A:List Nat} (h:Adj ops A=true):HoF ops A:=by
 unfold Adj at h;simp only [Bool.and_eq_true] at h;obtain ⟨⟨h1,h2⟩,h3⟩:=h;refine ⟨h1,Yl h2,fun i hi=>?_⟩
 have:=List.all_eq_true.1 h3 i hi
 cases ho:ops[i]? with
 | none=>rw [ho] at this; cases this
 | some o =>
  rw [ho] at this;simp only [Bool.and_eq_true] at this;obtain ⟨⟨g1,g2⟩,g3⟩:=this;cases hd:o.dst with
  | none=>rw [hd] at g3; cases g3
  | some d =>
   rw [hd] at g3;simp only [Bool.and_eq_true,Bool.not_eq_true'] at g3;obtain ⟨g4,g5⟩:=g3;refine ⟨o,d,rfl,Option.isNone_iff_eq_none.1 g1,g2,hd,g4,fun k q hk hq=>?_⟩;have hlt:k < ops.size:=(Array.getElem?_eq_some_iff.1 hq).1
   have:=List.all_eq_true.1 g5 k (List.mem_range.2 hlt)
   rw [hq] at this;simp only [Bool.or_eq_true,Bool.and_eq_true,Bool.not_eq_true'] at this;rcases this with this |⟨g6,g7⟩
   ·exact absurd (Nat.eq_of_beq_eq_true this) hk
   ·refine ⟨fun e=>?_,fun hl=>?_,fun e he hkA=>?_⟩
    ·rw [e] at g6;simp at g6
    ·rcases g7 with g7 | g7
     ·rw [hl] at g7; cases g7
     ·exact ⟨g7.1,Nat.le_of_ble_eq_true g7.2⟩
    ·rw [he] at g6;simp only [Bool.and_eq_true,Bool.not_eq_true',Bool.or_eq_true] at g6;rcases g6.2 with g | g
     ·exact absurd (U9 g) hkA
     ·exact g
structure HoR (P:Program) (ops:Array Oper) (A:List Nat) (L:Nat→Bool) (a b:Act):Prop where
 size:a.tmps.size=b.tmps.size
 defers:a.defers=b.defers
 same:∀ t,(∀ i∈A,L i=false→∀ o,ops[i]? = some o→o.dst≠some t)→a.tmps.getD t undef=b.tmps.getD t undef
 vals:∀ i∈A,L i=false→∀ o d,ops[i]? = some o→o.dst=some d→∀ w,(execOp b.eval o).run P w=.ok (.value (b.tmps.getD d undef)) w
theorem Vy {a:Act} {d:Tmp} {v:Value} (t:Nat):(a.put (some d) v).tmps.getD t undef=if t=d∧t < a.tmps.size then v else a.tmps.getD t undef:=by
 rw [Xj];by_cases h:t=d
 ·subst h; simp
 ·rw [if_neg (fun ⟨h1,_⟩=>h (Option.some.inj h1).symm),if_neg (fun ⟨h1,_⟩=>h h1)]
theorem Ac3 {a:Act} {t:Nat} (h:¬ t < a.tmps.size):a.tmps.getD t undef=undef:=by
 rw [Array.getD_eq_getD_getElem?]; simp [h]
theorem Zp {o:Op} (h:isHo o=true):∃ l,Y3 o=some l:=by
 cases o <;> first | exact ⟨_,rfl⟩ | cases h
theorem Aa9 {ops:Array Oper} {A:List Nat} (hf:HoF ops A):∀ (B C:List Nat) (S S':St T) (a a0:Act),C++B=A→hoL P n ops B S=some S'→Ul V n m Γ S Z ρ a w→HoR P ops C (fun _=>false) a0 a→∃ a',Ul V n m Γ S' Z ρ a' w∧HoR P ops A (fun _=>false) a0 a'
 | [],C,S,S',a,a0,hC,h,ha,hr=>by
  cases h;rw [List.append_nil] at hC;subst hC;exact ⟨a,ha,hr⟩
 | i :: B,C,S,S',a,a0,hC,h,ha,hr=>by
  unfold hoL at h;split at h
  ·rename_i o ho;split at h
   ·rename_i r hev;cases hd:Xw n o.dst with
    | false=>rw [hd] at h; cases h
    | true =>
     rw [hd] at h;simp only [cond_true] at h;obtain ⟨v,h1,h2⟩:=Ady V hev ha;have hiA:i∈A:=by rw [← hC]; simp
     obtain ⟨o',d,e1,e2,e3,e4,e5,e6⟩:=hf.ho i hiA;rw [ho] at e1;cases e1;have hsz:=ha.size;have hdn:d < a.tmps.size:=by
      rw [e4] at hd;unfold Xw at hd;rw [hsz];exact Nat.le_of_ble_eq_true hd
     refine Aa9 hf B (C++[i]) (S.put o.dst r) S' (a.put o.dst v) a0 (by rw [← hC]; simp) h (ha.put hd h2) ?_;have hnd:=hf.sorted;rw [← hC] at hnd;have hlt:∀ k∈C,k < i:=fun k hk=>(List.pairwise_append.1 hnd).2.2 k hk i (.head _)
     refine ⟨?_,?_,?_,?_⟩
     ·rw [Wr]; exact hr.size
     ·rw [Vm]; exact hr.defers
     ·intro t ht;have h3:=hr.same t fun k hk hl q hq=>ht k (by simp [hk]) hl q hq
      have h4:d≠t:=fun e=>ht i (by simp) rfl o ho (by rw [e4,e])
      rw [e4,Vy,if_neg (fun ⟨e,_⟩=>h4 e.symm)];exact h3
     ·intro k hk hl q e hq he w';rw [List.mem_append,List.mem_singleton] at hk;rcases hk with hk | rfl
      ·have hki:k≠i:=fun e=>by have:=hlt k hk; omega
       have hkA:k∈A:=by rw [← hC]; simp [hk]
       obtain ⟨q',d',f1,f2,f3,f4,f5,f6⟩:=hf.ho k hkA;rw [hq] at f1; cases f1;rw [he] at f4; cases f4;have hne:=(e6 k q hki hq).1;rw [he] at hne;have hval:=hr.vals k hk rfl q e hq he w';rw [e4,Vy,if_neg (fun ⟨h,_⟩=>hne (by rw [h]))];rw [← hval]
       congr 1
       refine (V2 (ops:=ops) (fun t ht=>?_) (Zp f3)).symm;rw [Vy,if_neg];rintro ⟨rfl,_⟩
       have:=((e6 k q hki hq).2.1 ht).2
       have:=hlt k hk
       omega
      ·rw [ho] at hq; cases hq;rw [e4] at he; cases he;rw [e4,Vy,if_pos ⟨rfl,hdn⟩];rw [← h1 w']
       congr 1
       refine (V2 (ops:=ops) (fun t ht=>?_) (Zp e3)).symm;rw [Vy,if_neg];rintro ⟨rfl,_⟩;rw [e5] at ht; cases ht
   ·cases h
  ·cases h
theorem Afv {o:Oper} {a b:Act} {w:World} {K K':Act→World→Prop} {Q Q':Exit→Act→World→Prop} (he:execOp a.eval o=execOp b.eval o) (hdf:a.defers=b.defers)
  (hK:∀ ds v w',K' ({ b with defers:=ds }.put o.dst v) w'→K ({ a with defers:=ds }.put o.dst v) w') (hQ:∀ ch w',Q' (.panic ch) b w'→Q (.panic ch) a w') (hl:LetsOut Q'→LetsOut Q) (h:o.wp P b w K' Q'):o.wp P a w K Q:=by
 have hK0:∀ v w',K' (b.put o.dst v) w'→K (a.put o.dst v) w':=fun v w' hk=>by
  have:=hK b.defers v w' hk
  rw [show ({ a with defers:=b.defers }:Act)=a by rw [← hdf]] at this;exact this
 unfold Oper.wp at h ⊢;rw [he];generalize (execOp b.eval o).run P w=r at h ⊢;cases r with
 | halt x w' =>
  cases x with
  | panic v=>exact hQ _ _ h
  | _=>exact h
 | ok x w' =>
  cases x with
  | value v=>exact hK0 v w' h
  | skip=>exact hK0 _ w' h
  | defer d =>
   have:=hK (d :: b.defers) undef w' h
   rw [← hdf] at this;exact this
  | enter f args =>
   refine Calls.mono h fun e w2 hr=>?_
   cases e with
   | returned v=>exact hK0 v w2 hr
   | panicked ch=>exact hQ _ _ hr
   | outgrown=>exact hl hr
  | row row args=>exact Rows.mono h fun v w2 hr=>hK0 v w2 hr
  | _=>exact h
theorem Wo {ops:Array Oper} {l:Array Bool} {i:Nat}:i∈Region.ready .any ops l↔i < ops.size∧l.getD i true=false∧∃ o,ops[i]? = some o∧∀ e∈o.after,Region.binds .any e=true→l.getD e.on false=true:=by
 unfold Region.ready;rw [List.mem_filter,List.mem_range];constructor
 ·rintro ⟨h1,h2⟩;simp only [Bool.and_eq_true,Bool.not_eq_true'] at h2;refine ⟨h1,h2.1,ops[i],by simp [h1],fun e he hb=>?_⟩;have h3:=h2.2;rw [Array.getElem?_eq_getElem h1,Option.map_some,Option.getD_some,Array.all_eq_true'] at h3
  have:=h3 e he
  simp only [hb,Bool.not_true,Bool.false_or] at this;exact this
 ·rintro ⟨h1,h2,o,h3,h4⟩;refine ⟨h1,?_⟩;simp only [Bool.and_eq_true,Bool.not_eq_true'];refine ⟨h2,?_⟩;rw [h3,Option.map_some,Option.getD_some,Array.all_eq_true'];intro e he;cases hb:Region.binds .any e with
  | false=>rfl
  | true=>simp only [Bool.not_true,Bool.false_or]; exact h4 e he hb
def unl (l:Array Bool):Nat:=(l.toList.filter fun b=>!b).length
theorem Afz {l:Array Bool} {i:Nat} (hi:i < l.size) (h:l.getD i true=false):unl (l.setIfInBounds i true)+1=unl l:=by
 unfold unl;rw [Array.getD_eq_getD_getElem?,Array.getElem?_eq_getElem hi,Option.getD_some] at h;have key:∀ (xs:List Bool) (i:Nat) (hi:i < xs.length),xs[i]=false→((xs.set i true).filter fun b=>!b).length+1=(xs.filter fun b=>!b).length:=by
  intro xs
  induction xs with
  | nil=>intro i hi; simp at hi
  | cons x xs ih =>
   intro i hi h;cases i with
   | zero =>
    simp at h; subst h;simp
   | succ i =>
    have:=ih i (by simpa using hi) (by simpa using h)
    rw [List.set_cons_succ,List.filter_cons,List.filter_cons];cases x <;> simp <;> omega
 rw [Array.toList_setIfInBounds];exact key l.toList i (by simpa using hi) (by simpa using h)
theorem Ae7 {l:Array Bool} (h:unl l=0):∀ i,i < l.size→l.getD i true=true:=fun i hi=>by
 unfold unl at h;rw [List.length_eq_zero_iff,List.filter_eq_nil_iff] at h;rw [Array.getD_eq_getD_getElem?,Array.getElem?_eq_getElem hi,Option.getD_some]
 have:=h l[i] (by simp)
 simpa using this
theorem Aej {ops:Array Oper} (hedges:V3 0 ops.toList=true) {l:Array Bool} (hs:l.size=ops.size) (h:Region.ready .any ops l=[]):∀ i,i < ops.size→l.getD i true=true:=by
 intro i
 induction i using Nat.strongRecOn with
 | _ i ih =>
  intro hi;cases hh:l.getD i true with
  | true=>rfl
  | false =>
   exfalso
   have:i∈Region.ready .any ops l:=Wo.2 ⟨hi,hh,ops[i],by simp [hi],fun e he hb=>by
    have hlt:=Ve ops.toList 0 i ops[i] hedges (by simp [hi]) e he hb;rw [Nat.zero_add] at hlt;have h1:=ih e.on hlt (by omega);have h2:e.on < l.size:=by omega
    rw [Array.getD_eq_getD_getElem?,Array.getElem?_eq_getElem h2,Option.getD_some] at h1 ⊢;exact h1⟩
   rw [h] at this;cases this
theorem Afa {ops:Array Oper} {A:List Nat} (hf:HoF ops A) (hops:∀ (k:Nat) o,ops[k]? = some o→∃ l,Y3 o.op=some l) {Q Q':Exit→Act→World→Prop} (hQn:∀ a w,Q' .normal a w→Q .normal a w)
  (hQp:∀ e a b w,e≠.normal→a.tmps.size=b.tmps.size→a.defers=b.defers→Q' e b w→Q e a w) :
  ∀ (fuel:Nat) (l:Array Bool) (fuel':Nat) (l':Array Bool) (a b:Act) (w:World),l.size=ops.size→l'.size=ops.size→unl l≤fuel→(∀ i,i < ops.size→l'.getD i true=(l.getD i true || A.contains i)) →
   (∀ (i:Nat) o,ops[i]? = some o→l.getD i true=true→∀ e∈o.after,Region.binds .any e=true→l.getD e.on true=true) →
   HoR P ops A (fun i=>l.getD i true) a b→wpAny P .any ops Q' fuel' l' b w→wpAny P .any ops Q fuel l a w:=by
 have hend:∀ (l:Array Bool) (fuel':Nat) (l':Array Bool) (a b:Act) (w:World),l.size=ops.size→l'.size=ops.size→(∀ i,i < ops.size→l'.getD i true=(l.getD i true || A.contains i))→(∀ i,i < ops.size→l.getD i true=true) →
   HoR P ops A (fun i=>l.getD i true) a b→wpAny P .any ops Q' fuel' l' b w→Q .normal a w:=by
  intro l fuel' l' a b w hl hl' hll hall hr h;have hr0:Region.ready .any ops l'=[]:=by
   rw [List.eq_nil_iff_forall_not_mem];intro i hi;obtain ⟨h1,h2,_⟩:=Wo.1 hi;rw [hll i h1,hall i h1] at h2;cases h2
  have hab:a=b:=by
   have ht:a.tmps=b.tmps:=by
    apply Array.ext hr.size;intro i h1 h2
    have:=hr.same i fun k hk hL=>by
     obtain ⟨o,d,g1,_⟩:=hf.ho k hk;rw [hall k (Array.getElem?_eq_some_iff.1 g1).1] at hL;cases hL
    rw [Array.getD_eq_getD_getElem?,Array.getD_eq_getD_getElem?,Array.getElem?_eq_getElem h1,Array.getElem?_eq_getElem h2] at this;exact this
   have hd:=hr.defers;cases a; cases b;simp only at ht hd;rw [ht,hd]
  rw [hab];refine hQn b w ?_;cases fuel' with
  | zero=>exact h.2
  | succ f=>exact h.1 hr0
 intro fuel
 induction fuel with
 | zero =>
  intro l fuel' l' a b w hl hl' hu hll hcl hr h;have hall:∀ i,i < ops.size→l.getD i true=true:=fun i hi=>Ae7 (by omega) i (by omega)
  refine ⟨?_,hend l fuel' l' a b w hl hl' hll hall hr h⟩;rw [List.eq_nil_iff_forall_not_mem];intro i hi;obtain ⟨h1,h2,_⟩:=Wo.1 hi;rw [hall i h1] at h2;cases h2
 | succ fuel ih =>
  intro l fuel' l' a b w hl hl' hu hll hcl hr h;refine ⟨fun hn=>hend l fuel' l' a b w hl hl' hll (Aej hf.edges hl hn) hr h,fun i hi=>?_⟩;obtain ⟨hi1,hi2,o,ho,hdep⟩:=Wo.1 hi;have hdepT:∀ e∈o.after,Region.binds .any e=true→l.getD e.on true=true:=fun e he hb=>by
   have hlt:=Ve ops.toList 0 i o hf.edges (by simpa using ho) e he hb;have h1:=hdep e he hb;have h2:e.on < l.size:=by omega
   rw [Array.getD_eq_getD_getElem?,Array.getElem?_eq_getElem h2,Option.getD_some] at h1 ⊢;exact h1
  have hbef:=Vo hf.edges (listed:=fun j=>l.getD j true) hcl i o ho hdepT;have hsame:∀ t,looksAt ops o t=true→a.tmps.getD t undef=b.tmps.getD t undef:=fun t ht=>hr.same t fun j hj hL q hq hd=>by
   obtain ⟨q',d,g1,g2,g3,g4,g5,g6⟩:=hf.ho j hj;rw [hq] at g1; cases g1;rw [g4] at hd; cases hd;by_cases hij:i=j
   ·subst hij;rw [ho] at hq; cases hq;rw [g5] at ht; cases ht
   ·have:=hbef j ((g6 i o hij ho).2.1 ht).1
    rw [hL] at this; cases this
  have hexec:=V2 hsame (hops i o ho);have hwant:=Aah hr.size hsame;have hset:∀ j,(l.setIfInBounds i true).getD j true=(l.getD j true || decide (j=i)):=fun j=>by
   rw [Array.getD_eq_getD_getElem?,Array.getD_eq_getD_getElem?];by_cases hji:i=j
   ·subst hji
    have:i < l.size:=by omega
    simp [this]
   ·rw [Array.getElem?_setIfInBounds_ne hji];simp [show ¬ j=i from fun h=>hji h.symm]
  have hset':∀ j,(l'.setIfInBounds i true).getD j true=(l'.getD j true || decide (j=i)):=fun j=>by
   rw [Array.getD_eq_getD_getElem?,Array.getD_eq_getD_getElem?];by_cases hji:i=j
   ·subst hji
    have:i < l'.size:=by omega
    simp [this]
   ·rw [Array.getElem?_setIfInBounds_ne hji];simp [show ¬ j=i from fun h=>hji h.symm]
  have hul:=Afz (l:=l) (i:=i) (by omega) hi2;have hcl':∀ (j:Nat) q,ops[j]? = some q→(l.setIfInBounds i true).getD j true=true→∀ e∈q.after,Region.binds .any e=true→(l.setIfInBounds i true).getD e.on true=true:=fun j q hq hj e he hb=>by
   rw [hset] at hj ⊢;simp only [Bool.or_eq_true,decide_eq_true_eq] at hj ⊢;rcases hj with hj | rfl
   ·exact .inl (hcl j q hq hj e he hb)
   ·rw [ho] at hq; cases hq;exact .inl (hdepT e he hb)
  by_cases hiA:i∈A
  ·-- one of A: it was carried out already
   obtain ⟨o',d,g1,g2,g3,g4,g5,g6⟩:=hf.ho i hiA;rw [ho] at g1; cases g1;have hval:=hr.vals i hiA hi2 o d ho g4 w;unfold wpOp;rw [ho];simp only;rw [show Region.wanted o (yielded ops a.tmps)=true by unfold Region.wanted; rw [g2],if_pos rfl];left;unfold Oper.wp;rw [hexec,hval];show wpAny P .any ops Q fuel (l.setIfInBounds i true) (a.put o.dst (b.tmps.getD d undef)) w;rw [g4];refine ih _ fuel' l' _ b w (by simpa using hl) hl' (by omega) (fun j hj=>?_) hcl' ⟨?_,?_,?_,?_⟩ h
   ·rw [hset,hll j hj];by_cases hji:j=i
    ·subst hji; simp [hiA]
    ·simp [hji]
   ·rw [Wr]; exact hr.size
   ·rw [Vm]; exact hr.defers
   ·intro t ht;rw [Vy];by_cases htd:t=d
    ·subst htd;by_cases hlt:t < a.tmps.size
     ·rw [if_pos ⟨rfl,hlt⟩]
     ·rw [if_neg (fun h=>hlt h.2),Ac3 hlt,Ac3 (by rw [← hr.size]; exact hlt)]
    ·rw [if_neg (fun h=>htd h.1)];refine hr.same t fun k hk hL q hq=>?_
     by_cases hki:k=i
     ·subst hki;rw [ho] at hq; cases hq;rw [g4];exact fun e=>htd (Option.some.inj e).symm
     ·exact ht k hk (by rw [hset]; simp [hL,hki]) q hq
   ·intro k hk hL q e hq he w';refine hr.vals k hk ?_ q e hq he w';rw [hset] at hL;simp only [Bool.or_eq_false_iff] at hL;exact hL.1
  ·-- another one
   have hi':i∈Region.ready .any ops l':=Wo.2 ⟨hi1,by rw [hll i hi1,hi2]; simpa using hiA,o,ho,fun e he hb=>by
    have hlt:=Ve ops.toList 0 i o hf.edges (by simpa using ho) e he hb;rw [Nat.zero_add] at hlt;have h1:=hll e.on (by omega);rw [hdepT e he hb,Bool.true_or] at h1;have h2:e.on < l'.size:=by omega
    rw [Array.getD_eq_getD_getElem?,Array.getElem?_eq_getElem h2,Option.getD_some] at h1 ⊢;exact h1⟩
   cases fuel' with
   | zero =>
    have:=h.1
    rw [this] at hi';cases hi'
   | succ f =>
    have hop:=h.2 i hi';have hstep:∀ ds v w',wpAny P .any ops Q' f (l'.setIfInBounds i true) ({ b with defers:=ds }.put o.dst v) w'→wpAny P .any ops Q fuel (l.setIfInBounds i true) ({ a with defers:=ds }.put o.dst v) w':=fun ds v w' hk=>by
     refine ih _ f _ _ _ w' (by simpa using hl) (by simpa using hl') (by omega) (fun j hj=>?_) hcl' ⟨?_,?_,?_,?_⟩ hk
     ·rw [hset,hset',hll j hj];cases l.getD j true <;> cases A.contains j <;> simp
     ·rw [Wr,Wr]; exact hr.size
     ·rw [Vm,Vm]
     ·intro t ht;have hold:a.tmps.getD t undef=b.tmps.getD t undef∨o.dst=some t∧t < a.tmps.size:=by
       by_cases hdt:o.dst=some t∧t < a.tmps.size
       ·exact .inr hdt
       ·refine .inl (hr.same t fun k hk hL q hq=>ht k hk ?_ q hq);rw [hset];have hki:k≠i:=fun e=>hiA (e ▸ hk)
        simp [hL,hki]
      rw [Xj,Xj];simp only;rw [← hr.size];by_cases hdt:o.dst=some t∧t < a.tmps.size
      ·rw [if_pos hdt,if_pos hdt]
      ·rw [if_neg hdt,if_neg hdt];exact hold.resolve_right hdt
     ·intro k hk hL q d hq hd w2;rw [hset] at hL;simp only [Bool.or_eq_false_iff] at hL;obtain ⟨q',d',g1,g2,g3,g4,g5,g6⟩:=hf.ho k hk;rw [hq] at g1; cases g1;rw [hd] at g4; cases g4;have hki:i≠k:=fun e=>hiA (e ▸ hk)
      obtain ⟨k1,k2,k3⟩:=g6 i o hki ho;have hv:=hr.vals k hk hL.1 q d hq hd w2;rw [Xj,if_neg (fun h=>k1 h.1)];simp only;rw [← hv]
      congr 1
      refine V2 (ops:=ops) (fun t ht=>?_) (Zp g3);rw [Xj,if_neg];rintro ⟨hdt,_⟩;rw [k3 t hdt hiA] at ht;cases ht
    have hlet:LetsOut Q'→LetsOut Q:=fun ⟨a1,w1,h1⟩=>⟨a1,w1,hQp _ a1 a1 w1 (by simp) rfl rfl h1⟩
    unfold wpOp at hop ⊢;rw [ho] at hop ⊢;simp only at hop ⊢;rw [hwant];split
    ·rename_i hw;rw [if_pos hw] at hop;rcases hop with hop |⟨h1,h2⟩
     ·exact .inl (Afv hexec hr.defers hstep (fun ch w' hq=>hQp _ a b w' (by simp) hr.size hr.defers hq) hlet hop)
     ·refine .inr ⟨?_,hlet h2⟩;unfold Oper.asks at h1 ⊢;rw [hexec];exact h1
    ·rename_i hw;rw [if_neg hw] at hop
     have:=hstep b.defers undef w hop
     rw [show ({ a with defers:=b.defers }:Act)=a by rw [← hr.defers]] at this;exact this
def Abm (ops:Array Oper):Bool:=ops.toList.all fun o=>(Y3 o.op).isSome
theorem Adc {ops:Array Oper} (h:Abm ops=true):∀ (k:Nat) o,ops[k]? = some o→∃ l,Y3 o.op=some l:=fun k o ho=>by
 have:=List.all_eq_true.1 h o (by rw [Array.mem_toList_iff]; exact Array.mem_of_getElem? ho)
 exact Option.isSome_iff_exists.1 this
theorem Zr (i:Nat) (A:List Nat):Uf i A=A.contains i:=by
 cases h:Uf i A with
 | true=>exact (by simpa using U9 h:A.contains i=true).symm
 | false =>
  cases h2:A.contains i with
  | false=>rfl
  | true=>rw [V5 (by simpa using h2)] at h; cases h
theorem Ac8 (hm:P.follows .mixedOrders=true) {id:Nat} {ops:Array Oper} {A:List Nat} {S1:St T} (h1:hoL P n ops A S=some S1) (hok:(Adj ops A && Abm ops)=true) {Q Q':Exit→Act→World→Prop} (hQn:∀ a w,Q' .normal a w→Q .normal a w)
  (hQp:∀ e a b w,e≠.normal→a.tmps.size=b.tmps.size→a.defers=b.defers→Q' e b w→Q e a w) (ha:Ul V n m Γ S Z ρ a w) {fuel:Nat}
  (h:∀ b,Ul V n m Γ S1 Z ρ b w.drew→wpAny P .any ops Q' fuel ((Array.range ops.size).map fun i=>Uf i A) b w.drew):(Code.region id ops true).wp P Q a w:=by
 simp only [Bool.and_eq_true] at hok;have hf:=Aep hok.1;have ha':Ul V n m Γ S Z ρ a w.drew:=ha.onto ⟨(Below.refl _ _).drew,fun _ h=>h,fun _ h=>.inl h⟩;obtain ⟨b,hb,hr⟩:=Aa9 V hf A [] S S1 a a rfl h1 ha' ⟨rfl,rfl,fun _ _=>rfl,fun i hi=>by cases hi⟩;refine wp_region_any hm ?_;have hl:∀ i,i < ops.size→(Array.replicate ops.size false).getD i true=false:=fun i hi=>by
  rw [Array.getD_eq_getD_getElem?]; simp [hi]
 have hA:∀ i∈A,i < ops.size:=fun i hi=>by
  obtain ⟨o,d,g,_⟩:=hf.ho i hi;exact (Array.getElem?_eq_some_iff.1 g).1
 refine Afa hf (Adc hok.2) hQn hQp ops.size (Array.replicate ops.size false) fuel _ a b w.drew (by simp) (by simp) ?_ (fun i hi=>?_) (fun i o ho hli=>?_) ⟨hr.size,hr.defers,fun t ht=>hr.same t fun i hi _=>ht i hi (hl i (hA i hi)),fun i hi _=>hr.vals i hi rfl⟩ (h b hb)
 ·unfold unl;refine Nat.le_trans (List.length_filter_le _ _) ?_;simp
 ·rw [hl i hi,Bool.false_or,← Zr,Array.getD_eq_getD_getElem?];simp [hi]
 ·rw [hl i (Array.getElem?_eq_some_iff.1 ho).1] at hli;cases hli
def Ad3 (P:Program) (n m:Nat) (ops:Array Oper) (base:Nat) (decs:List (Nat×Bool)) (oras:List (Nat×AV T)) (effs:List (Nat×Ut T)) (A:List Nat) (S:St T):Option (List Prop×List (St T)) :=
 match hoL P n ops A S with
 | some S1=>bif Adj ops A && Abm ops then Acw V P n m ops base decs oras effs (ops.size - A.length) ((Array.range ops.size).map fun i=>Uf i A) S1 else none
 | none=>none
theorem Aea (L:V.E.Law V.isB V.toB) (hm:P.follows .mixedOrders=true) {Q:Exit→St T→Prop} {id:Nat} {ops:Array Oper} (base:Nat) (decs:List (Nat×Bool)) (oras:List (Nat×AV T)) (effs:List (Nat×Ut T)) (A:List Nat) (k:Nat) (ts ids:List Nat) {cs:List Prop} {S':St T}
  (h:(Ad3 V P n m ops base decs oras effs A S).map (fun p=>(p.1,p.2.map fun F=>(F.keep ts ids).co S'))=some (cs,List.replicate k S')) (hcs:Us cs) (hQ:Q .normal S'):Uc V P n m Γ (.region id ops true) Q S:=by
 intro Z ρ a w ha;rw [Option.map_eq_some_iff] at h;obtain ⟨⟨cs0,Fs⟩,h1,h2⟩:=h;simp only [Prod.mk.injEq] at h2;obtain ⟨rfl,hk⟩:=h2;unfold Ad3 at h1;split at h1
 ·rename_i S1 hS1;cases hok:(Adj ops A && Abm ops) with
  | false=>rw [hok] at h1; cases h1
  | true =>
   rw [hok] at h1;simp only [cond_true] at h1;refine Ac8 V hm hS1 hok (fuel:=ops.size - A.length) (Q':=fun e a w=>e=.normal∧∃ Z' ρ',Ul V n m Γ S' Z' ρ' a w) (fun a w ⟨_,Z',ρ',h⟩=>⟨S',Z',ρ',hQ,h⟩) (fun e a b w hne _ _ h=>absurd h.1 hne) ha fun b hb=>?_
   refine Acs V L _ _ _ Z ρ b _ cs0 _ h1 hcs hb fun F hF a' w' Z' ρ' h'=>⟨rfl,Z',ρ',?_⟩
   have h3:(F.keep ts ids).co S'∈List.replicate k S':=by rw [← hk]; exact List.mem_map.2 ⟨F,hF,rfl⟩
   have h4:=(List.mem_replicate.1 h3).2;have h5:=(h'.keep ts ids).co V S';rw [h4] at h5;exact h5
 ·cases h1
def Zh (f:Nat→Option (List Prop)):List Nat→Option (List Prop)
 | []=>some []
 | i :: is=>match f i,Zh f is with
  | some cs,some cs'=>some (cs++cs')
  | _,_=>none
theorem X6 {f:Nat→Option (List Prop)}:∀ {is:List Nat} {cs:List Prop},Zh f is=some cs→∀ i∈is,∃ cs',f i=some cs'∧∀ p∈cs',p∈cs
 | [],cs,h,i,hi=>by cases hi
 | j :: is,cs,h,i,hi=>by
  unfold Zh at h;split at h
  ·rename_i cs1 cs2 h1 h2;cases h;cases hi with
   | head=>exact ⟨cs1,h1,fun p hp=>List.mem_append_left _ hp⟩
   | tail _ hi =>
    obtain ⟨cs',h3,h4⟩:=X6 h2 i hi;exact ⟨cs',h3,fun p hp=>List.mem_append_right _ (h4 p hp)⟩
  ·cases h
def Ab2 (P:Program) (n m:Nat) (ops:Array Oper) (base:Nat) (decs:List (Nat×Bool)) (oras:List (Nat×AV T)) (effs:List (Nat×Ut T)) (c:Nat) (e:Ut T) (v:Value):Nat→Array Bool→St T→Option (List Prop)
 | 0,_,_=>none
 | fuel+1,listed,S=>match Region.ready .any ops listed with
  | []=>none
  | is=>Zh (fun i=>match ops[i]? with
   | some o=>bif Nat.beq i c then
     (match evG ops o S,Xz V P m S e v [] o with
     | some true,some p=>some [p]
     | _,_=>none)
    else (match Afq V P n m (base+i) ops (look i decs) (look i oras) (look i effs) o S with
     | some (cs,S1)=>match Ab2 P n m ops base decs oras effs c e v fuel (listed.setIfInBounds i true) S1 with
      | some cs2=>some (cs++cs2)
      | none=>none
     | none=>none)
   | none=>none) is
theorem Ab7 (L:V.E.Law V.isB V.toB) {ops:Array Oper} {base:Nat} {decs:List (Nat×Bool)} {oras:List (Nat×AV T)} {effs:List (Nat×Ut T)} {c:Nat} {e:Ut T} {v:Value} {Q:Exit→Act→World→Prop}:∀ (fuel:Nat) (listed:Array Bool) (S:St T) (Z:Nat→Prop) (ρ:Nat→Option (Nat×Nat×Nat)) (a:Act) (w:World) (cs:List Prop),
  Ab2 V P n m ops base decs oras effs c e v fuel listed S=some cs→Us cs→Ul V n m Γ S Z ρ a w→(∀ a' w' Z' ρ',Ul V n m Γ ⟨[],[]⟩ Z' ρ' a' w'→Q (.panic [{ v:=v,recovered:=false }]) a' w')→wpAny P .any ops Q fuel listed a w:=by
 intro fuel
 induction fuel with
 | zero=>intro listed S Z ρ a w cs h; cases h
 | succ fuel ih =>
  intro listed S Z ρ a w cs h hcs ha hQ;unfold Ab2 at h;split at h
  ·cases h
  ·rename_i is hne;refine ⟨fun he=>absurd he hne,fun i hi=>?_⟩;obtain ⟨cs',h1,h2⟩:=X6 h i hi;have hlt:i < ops.size:=by
    unfold Region.ready at hi;exact List.mem_range.1 (List.mem_filter.1 hi).1
   rw [Array.getElem?_eq_getElem hlt] at h1;simp only at h1;unfold wpOp;rw [Array.getElem?_eq_getElem hlt];simp only;cases hc:Nat.beq i c with
   | true =>
    rw [hc] at h1;simp only [cond_true] at h1;split at h1
    ·rename_i p hg hx;cases h1;rw [Vq V hg ha,if_pos rfl];exact .inl (Yf (tks:=[]) hx (hcs.mem p (h2 p (.head _))) ha fun w2 Z2 h2=>hQ _ _ _ _ h2)
    ·cases h1
   | false =>
    rw [hc] at h1;simp only [cond_false] at h1;split at h1
    ·rename_i cs1 S1 he;split at h1
     ·rename_i cs2 hr;cases h1;have hc1:Us cs1:=Us.of_mem fun p hp=>hcs.mem p (h2 p (List.mem_append_left _ hp))
      have hc2:Us cs2:=Us.of_mem fun p hp=>hcs.mem p (h2 p (List.mem_append_right _ hp))
      have:=V8 V L (K:=wpAny P .any ops Q fuel (listed.setIfInBounds i true)) (Q:=Q) he hc1 ha fun a' w' Z' ρ' ha'=>ih _ S1 Z' ρ' a' w' cs2 hr hc2 ha' hQ
      split
      ·rename_i hw; rw [if_pos hw] at this; exact .inl this
      ·rename_i hw; rw [if_neg hw] at this; exact this
     ·cases h1
    ·cases h1
theorem Aft {a b:Act} {w:World} {Z:Nat→Prop} {ρ:Nat→Option (Nat×Nat×Nat)} (hs:a.tmps.size=b.tmps.size) (hd:a.defers=b.defers) (h:Ul V n m Γ ⟨[],[]⟩ Z ρ b w):Ul V n m Γ ⟨[],[]⟩ Z ρ a w :=
 { h with
  defers:=by rw [hd]; exact h.defers
  size:=by rw [hs]; exact h.size
  tmps:=fun t x hx=>by cases hx }
def Ae8 (P:Program) (n m:Nat) (ops:Array Oper) (base:Nat) (decs:List (Nat×Bool)) (oras:List (Nat×AV T)) (effs:List (Nat×Ut T)) (A:List Nat) (c:Nat) (e:Ut T) (v:Value) (S:St T):Option (List Prop) :=
 match hoL P n ops A S with
 | some S1=>bif Adj ops A && Abm ops then Ab2 V P n m ops base decs oras effs c e v (ops.size - A.length) ((Array.range ops.size).map fun i=>Uf i A) S1 else none
 | none=>none
theorem Af0 (L:V.E.Law V.isB V.toB) (hm:P.follows .mixedOrders=true) {Q:Exit→St T→Prop} {id:Nat} {ops:Array Oper} (base:Nat) (decs:List (Nat×Bool)) (oras:List (Nat×AV T)) (effs:List (Nat×Ut T)) (A:List Nat) (c:Nat) (e:Ut T) (v:Value) {cs:List Prop}
  (h:Ae8 V P n m ops base decs oras effs A c e v S=some cs) (hcs:Us cs) (hQ:Q (.panic [{ v:=v,recovered:=false }]) ⟨[],[]⟩):Uc V P n m Γ (.region id ops true) Q S:=by
 intro Z ρ a w ha;unfold Ae8 at h;split at h
 ·rename_i S1 hS1;cases hok:(Adj ops A && Abm ops) with
  | false=>rw [hok] at h; cases h
  | true =>
   rw [hok] at h;simp only [cond_true] at h;refine Ac8 V hm hS1 hok (fuel:=ops.size - A.length) (Q':=fun e a w=>e=.panic [{ v:=v,recovered:=false }]∧∃ Z' ρ',Ul V n m Γ ⟨[],[]⟩ Z' ρ' a w) (fun a w ⟨h,_⟩=>by cases h) (fun e a b w hne hs hd ⟨he,Z',ρ',h⟩=>⟨⟨[],[]⟩,Z',ρ',he ▸ hQ,Aft V hs hd h⟩) ha fun b hb=>?_
   exact Ab7 V L _ _ _ Z ρ b _ cs h hcs hb fun a' w' Z' ρ' h'=>⟨rfl,Z',ρ',h'⟩
 ·cases h
variable {V}
theorem hA (L:V.E.Law V.isB V.toB) (hm:P.follows .mixedOrders=true) {Q:Exit→St T→Prop} {id:Nat} {ops:Array Oper} (base:Nat) (decs:List (Nat×Bool)) (oras:List (Nat×AV T)) (effs:List (Nat×Ut T)) (A:List Nat) (k:Nat) {cs:List Prop} {S':St T} (hcs:Us cs) (hQ:Q .normal S')
  (h:(Ad3 V P n m ops base decs oras effs A S).map (fun p=>(p.1,p.2.map fun F=>(F.keep S'.ts S'.ids).co S'))=some (cs,List.replicate k S'):=by kernel_rfl):Uc V P n m Γ (.region id ops true) Q S:=Aea V L hm base decs oras effs A k S'.ts S'.ids h hcs hQ
theorem pn (L:V.E.Law V.isB V.toB) {Q:Exit→St T→Prop} {id:Nat} {ops:Array Oper} (base:Nat) (decs:List (Nat×Bool)) (oras:List (Nat×AV T)) (effs:List (Nat×Ut T)) (i:Nat) (tks kids:List Nat) (e:Ut T) (v:Value) {cs:List Prop} {S':St T} (hcs:Us cs) (hQ:Q (.panic [{ v:=v,recovered:=false }]) S')
  (h:Abz V P n m ops base decs oras effs i e v tks kids S=some (cs,S'):=by kernel_rfl):Uc V P n m Γ (.region id ops false) Q S:=Ad7 L base decs oras effs i e v tks kids h hcs hQ
theorem xo {f:FuncId} {fn:Func} {c:Code} {args:List (AV T)} {H:List (Nat×T9 T)} {fx:List Nat} {o:Uz T} {H':List (Nat×T9 T)} (h:∀ Γ:Ue,Uc V P n m Γ c (Ui P V fn o H') ⟨T0 0 args,H⟩) (hf:P.funcs[f]? = some fn:=by kernel_rfl) (hb:fn.body=some c:=by kernel_rfl) (hcal:U7 P f=true:=by kernel_rfl) (hn:fn.ntmps=n:=by rfl) (hle:Nat.ble args.length n=true:=by kernel_rfl)
  (hids:(H.all (fun p=>Nat.blt p.1 100) && fx.all (fun i=>Nat.blt i m))=true:=by kernel_rfl):Ug V P f args H fx H' o:=Afp hf hb hcal hn hle hids h
end
end Go.Proofs.YtdgejpgbppfhmaaGreatDoor.Eng
namespace Go.Proofs.YtdgejpgbppfhmaaGreatDoor.Eng
open Go.RowKit (Below)
def X9:Code→Code
 | .seq x _=>x
 | c=>c
def Ud:Code→Code
 | .seq _ y=>y
 | c=>c
section
variable {Tag:Type} {T:Tag→Type}
def Zf (S:St T):Bool :=
 match look 4 S.tmps,look 5 S.tmps,look 6 S.tmps,look 90 S.heap,look 91 S.heap,look 92 S.heap with
 | some (.cv (.ptr i 0)),some (.cv (.ptr j 0)),some (.cv (.ptr k 0)),some (.raw a),some (.raw b),some (.raw c) =>
  Nat.beq i 90 && Nat.beq j 91 && Nat.beq k 92 && Nat.beq a.length 5 && Nat.beq b.length 1 && Nat.beq c.length 1
 | _,_,_,_,_,_=>false
def Xr (P:Program) (V:V6 T) (fn:Func) (o:Uz T) (e:Exit) (S:St T):Prop :=
 match o with
 | .ret r=>(e=.normal∨e=.ret)∧∃ x,W8 V.E P S fn=some x∧coA x r=r
 | .pan v=>e=.panic [{ v:=v,recovered:=false }]∧Zf S=true
variable {V:V6 T} {P:Program} {n m:Nat} {S:St T}
theorem rr {fn:Func} {o:Uz T} {r:AV T} (x:AV T) (ho:o=.ret r:=by rfl) (h1:W8 V.E P S fn=some x:=by kernel_rfl) (h2:coA x r=r:=by kernel_rfl):Xr P V fn o .ret S:=by
 subst ho; exact ⟨.inr rfl,x,h1,h2⟩
theorem rp {fn:Func} {o:Uz T} {v:Value} (ho:o=.pan v:=by rfl) (h:Zf S=true:=by kernel_rfl):Xr P V fn o (.panic [{ v:=v,recovered:=false }]) S:=by
 subst ho; exact ⟨rfl,h⟩
theorem Aa1 {fn:Func} {args:List (AV T)} {w:World} {Z:Nat→Prop} {vs:Array Value} (hn:fn.ntmps=n) (hle:Nat.ble args.length n=true) (hZ:ZOK V w Z) (hsz:vs.size=args.length)
  (hargs:∀ (i:Nat) x v,args[i]? = some x→vs[i]? = some v→RA V.E w Z (fun _=>none) x v) :
  Ul V n m { w0:=w,Z0:=Z,D:=fun _ _=>False,st:=[] } ⟨T0 0 args,[]⟩ Z (fun _=>none) { tmps:=vs++Array.replicate (fn.ntmps - vs.size) undef,defers:=[] } w:={
  defers:=rfl
  size:=by have:=Nat.le_of_ble_eq_true hle; simp [hn]; omega
  tmps:=fun t v hv=>by
   obtain ⟨_,hv⟩:=Ww args 0 t v hv;simp only [Nat.sub_zero] at hv;have ht:t < vs.size:=by rw [hsz]; exact (List.getElem?_eq_some_iff.1 hv).1
   have:=hargs t v vs[t] hv (by simp [ht])
   have e:(vs++Array.replicate (fn.ntmps - vs.size) undef).getD t undef=vs[t]:=by
    rw [Array.getD_eq_getD_getElem?,Array.getElem?_append_left ht]; simp [ht]
   rw [e]; exact this
  os:=rfl
  tape:=rfl
  output:=rfl
  hsize:=Nat.le_refl _
  old:=fun _ _ _=>rfl
  stm:=fun p hp=>by cases hp
  dlt:=fun _ _ h=>h.elim
  st:=fun p hp=>by cases hp
  Z0:=fun _ h=>h
  Zold:=fun _ h _=>h
  Zlt:=hZ.lt
  glb:=hZ.glb
  own:=fun id blk b c hl=>by cases hl
  inj:=fun id id' blk blk' b c c' hl=>by cases hl
  blk:=fun id blk hl=>by cases hl }
end
end Go.Proofs.YtdgejpgbppfhmaaGreatDoor.Eng
namespace Go.Proofs.YtdgejpgbppfhmaaGreatDoor.Eng
open Go.RowKit (Below)
open Go.ChangeShapes Go.WideShapes
section
variable {Tag:Type} {T:Tag→Type}
def V0 (N:Nat) (V:V6 T) (P:Program) (t:TypeId) {α:Type} (c:T5 T α) (G:α→Prop):Prop :=
 ∀ (H:Type) (enc:TypeId×Value→H) (W:World) (spare:Nat→Bool) (held:Bool) (fuel:Nat) (cs:List Value) (x:DataW H×List MemPlace),fuel≤N →
  DataW.trod enc P W 0 spare held fuel t cs=some x→(∀ n∈x.1.weights P t,n≤reachBytes)→∃ y,G y∧cs.length=c.sz∧∀ (j:Nat) k v,(c.k y)[j]? = some k→cs[j]? = some v→PR V.E W (fun b=>b < W.heap.size) k v
def Zi (N:Nat) (V:V6 T) (P:Program) (fs:List Field) (off:Nat) {α:Type} (c:T5 T α) (G:α→Prop):Prop :=
 ∀ (H:Type) (enc:TypeId×Value→H) (W:World) (spare:Nat→Bool) (held:Bool) (n:Nat) (cs:List Value),n≤N →
  (∀ (i:Nat) (f:Field),fs[i]? = some f→∃ y,DataW.trod enc P W 0 spare held n f.type ((cs.drop f.offset).take (P.cellsOf f.type))=some y∧∀ q∈y.1.weights P f.type,q≤reachBytes) →
  ∃ y,G y∧∀ (j:Nat) k v,(c.k y)[j]? = some k→cs[off+j]? = some v→PR V.E W (fun b=>b < W.heap.size) k v
variable {V:V6 T} {P:Program} {t:TypeId} {N:Nat}
theorem Vg.n {α:Type} {c:T5 T α} {G:α→Prop} (h:Vg V P t c G):V0 N V P t c G:=fun H enc W spare held fuel cs x _=>h H enc W spare held fuel cs x
theorem Adk {α:Type} {c:T5 T α} {G:α→Prop} (h:∀ N,V0 N V P t c G):Vg V P t c G:=fun H enc W spare held fuel cs x=>h fuel H enc W spare held fuel cs x (Nat.le_refl _)
theorem V0.imp {α:Type} {c:T5 T α} {G G':α→Prop} (h:V0 N V P t c G) (hg:∀ y,G y→G' y):V0 N V P t c G':=fun H enc W spare held fuel cs x hf hx hw=>by
 obtain ⟨y,h1,h2⟩:=h H enc W spare held fuel cs x hf hx hw;exact ⟨y,hg y h1,h2⟩
theorem Ac9 {α:Type} {c:T5 T α} {G:α→Prop}:V0 0 V P t c G:=fun H enc W spare held fuel cs x hf hx=>by
 have:fuel=0:=by omega
 subst this;unfold DataW.trod at hx;cases hx
theorem Aeq [DecidableEq Tag] {e:TypeId} {tg:Tag} {c:T5 T (T tg)} {G:T tg→Prop} (ht:P.underlying t=some (.slice e)) (hk:∀ x,V.E.k tg x=c.k x) (hs:V.E.sz tg=P.cellsOf e) (hpos:0 < P.cellsOf e)
  (he:V0 N V P e c G):V0 N V P t (T5.sl tg) (fun l=>l.length * P.bytesOf e≤reachBytes∧l.length≤9223372036854775807∧∀ x∈l,G x):=by
 intro H enc W spare held fuel cs x hf h hwt;have hR:∀ n,n≤N→∀ (cs':List Value) x',DataW.trod enc P W 0 spare held n e cs'=some x'→(∀ n∈x'.1.weights P e,n≤reachBytes)→∃ y,G y∧cs'.length=c.sz∧∀ (j:Nat) k v,(c.k y)[j]? = some k→cs'[j]? = some v→PR V.E W (fun b=>b < W.heap.size) k v :=
  fun n hn cs' x' hx hw=>he H enc W spare held n cs' x' hn hx hw
 rcases DataW.trod_slice ht h with ⟨rfl,_⟩ |⟨a,len,cap,elems,rest,n,hfn,rfl,hx,_,hl,hm,hlen,hel,_,_⟩
 ·refine ⟨[],by simp,rfl,fun j c v hc hv=>?_⟩
  match j with
  | 0=>simp [T5.sl] at hc hv; subst hc; subst hv; exact .ronil _ _ _
  | j+1=>simp [T5.sl] at hc
 ·have key:∀ i,i < len→∃ y,G y∧∀ (j:Nat) k,(c.k y)[j]? = some k→∃ v,W.cell? (a.add (i * P.cellsOf e+j))=some v∧PR V.E W (fun b=>b < W.heap.size) k v:=by
   intro i hi;have h1:=hel i hi;rw [List.getElem?_eq_getElem (by omega)] at h1;rw [Option.bind_eq_some_iff] at h1;obtain ⟨cs',h2,h3⟩:=h1;obtain ⟨y,g1,g2,g3⟩:=hR n (by omega) cs' _ h3 (fun q hq=>hwt q (by
    subst hx;simp only [DataW.weights,ht];exact List.mem_cons_of_mem _ (List.mem_append_left _ (Xa _ _ _ (List.mem_map.2 ⟨_,List.getElem_mem (by omega),rfl⟩) hq))))
   refine ⟨y,g1,fun j k hk'=>?_⟩;obtain ⟨_,c2,c3⟩:=World.cells?_some h2;have hj:j < cs'.length:=by rw [g2,← c.klen y]; exact (List.getElem?_eq_some_iff.1 hk').1
   refine ⟨cs'[j],?_,g3 j k _ hk' (List.getElem?_eq_getElem hj)⟩
   have:=c3 j (by omega)
   rw [← List.getElem?_eq_getElem hj,← this];rw [Go.Addr.add_add]
  obtain ⟨l,h1,h2⟩:=Ad9 (fun i y=>G y∧∀ (j:Nat) k,(c.k y)[j]? = some k→∃ v,W.cell? (a.add (i * P.cellsOf e+j))=some v∧PR V.E W (fun b=>b < W.heap.size) k v) len key;refine ⟨l,⟨?_,by rw [h1]; exact Nat.le_trans hl hm,fun x hx=>?_⟩,rfl,fun j k v hk' hv=>?_⟩
  ·refine Nat.le_trans ?_ (hwt ((elems.length+rest.length) * P.bytesOf e) (by subst hx; simp only [DataW.weights,ht,List.length_map]; exact List.mem_cons_self));exact Nat.mul_le_mul_right _ (by omega)
  ·obtain ⟨i,hi,rfl⟩:=List.mem_iff_getElem.1 hx;exact (h2 i _ (List.getElem?_eq_getElem hi)).1
  ·cases j with
   | succ j=>cases hk'
   | zero =>
    replace hk':some (CV.ro tg l)=some k:=hk';simp at hk' hv;subst hk'; subst hv;by_cases hnil:l=[]
    ·subst hnil;simp at h1;subst h1;exact .ronil _ _ _
    ·rw [← h1];have hl0:0 < l.length:=List.length_pos_iff.2 hnil;have hb:a.block < W.heap.size:=by
      have hg:=h2 0 l[0] (List.getElem?_eq_getElem hl0);have hp:0 <(c.k l[0]).length:=by rw [← hk,V.E.klen,hs]; exact hpos
      obtain ⟨v,hv,_⟩:=hg.2 0 _ (List.getElem?_eq_getElem hp)
      have:=World.cells?_block (n:=1) (base:=0) (cellsq hv) (by omega)
      have e:(a.add (0 * P.cellsOf e+0)).block=a.block:=by unfold Addr.add; split <;> rfl
      rw [e] at this;exact this
     refine .ro tg l a cap (fun i j=>(W.cell? (a.add (i * V.E.sz tg+j))).getD undef) hb (by rw [h1]; exact hl) (fun i x j k hx hc=>?_) fun i x j k hx hc=>?_
     ·rw [hk] at hc;obtain ⟨v,hv,_⟩:=(h2 i x hx).2 j k hc;rw [hs,hv];rfl
     ·rw [hk] at hc;obtain ⟨v,hv,hp⟩:=(h2 i x hx).2 j k hc;simp only [hs,hv];exact hp
where cellsq {W:World} {a:Addr} {v:Value} (h:W.cell? a=some v):W.cells? 0 a 1=some [v]:=cells?_one (Nat.zero_le _) h
theorem Y9 {f:Field} {off:Nat} {α:Type} {c:T5 T α} {G:α→Prop} (ho:f.offset=off) (h:V0 N V P f.type c G):Zi N V P [f] off c G:=by
 intro H enc W spare held n cs hn hf;obtain ⟨x,hx,hwt⟩:=hf 0 f rfl;obtain ⟨y,g1,g2,g3⟩:=h H enc W spare held n _ _ hn hx hwt;refine ⟨y,g1,fun j k v hk hv=>g3 j k v hk ?_⟩;have hj:j < c.sz:=by rw [← c.klen y]; exact (List.getElem?_eq_some_iff.1 hk).1
 rw [ho] at g2 ⊢;simp only [List.length_take,List.length_drop] at g2;rw [List.getElem?_take,if_pos (by omega),List.getElem?_drop];exact hv
theorem V1 {f:Field} {fs:List Field} {off:Nat} {α β:Type} {c:T5 T α} {d:T5 T β} {G:α→Prop} {G':β→Prop} (ho:f.offset=off) (h:V0 N V P f.type c G) (hr:Zi N V P fs (off+c.sz) d G') :
  Zi N V P (f :: fs) off (T5.pair c d) (fun y=>G y.1∧G' y.2):=by
 intro H enc W spare held n cs hn hf;obtain ⟨y,g1,g2⟩:=Y9 ho h H enc W spare held n cs hn (fun i f' hi=>by
  cases i with
  | zero=>cases hi; exact hf 0 f rfl
  | succ i=>cases hi)
 obtain ⟨z,h1,h2⟩:=hr H enc W spare held n cs hn (fun i f' hi=>hf (i+1) f' hi);refine ⟨(y,z),⟨g1,h1⟩,fun j k v hk hv=>?_⟩;replace hk:(c.k y++d.k z)[j]? = some k:=hk;by_cases hj:j <(c.k y).length
 ·rw [List.getElem?_append_left hj] at hk;exact g2 j k v hk hv
 ·rw [List.getElem?_append_right (by omega)] at hk;refine h2 _ k v hk ?_;rw [← hv]
  congr 1
  rw [c.klen] at hj ⊢;omega
theorem Aay {fs:Array Field} {α β:Type} {c:T5 T α} {f:β→α} {g:α→β} {hfg:∀ x,f (g x)=x} {G:α→Prop} (ht:P.underlying t=some (.struct fs)) (hsz:P.cellsOf t=c.sz)
  (h:Zi N V P fs.toList 0 c G):V0 (N+1) V P t (T5.iso c f g hfg) (fun y=>G (f y)):=by
 intro H enc W spare held fuel cs x hfu hx hwt;obtain ⟨xs,n,hn,rfl,hl,hlen,hf⟩:=DataW.trod_struct ht hx;obtain ⟨y,g1,g2⟩:=h H enc W spare held n cs (by omega) (fun i fl hi=>by
  have hi':fs[i]? = some fl:=by rw [← Array.getElem?_toList]; exact hi
  have h1:=hf i fl hi'
  have:i < xs.length:=by rw [hlen]; exact (Array.getElem?_eq_some_iff.1 hi').1
  refine ⟨xs[i],by rw [h1]; exact List.getElem?_eq_getElem this,fun q hq=>hwt q ?_⟩;simp only [DataW.weights,ht];exact W0 _ _ i fl.type _ q (by rw [List.getElem?_map,hi]; rfl) (by rw [List.getElem?_map,List.getElem?_eq_getElem this]; rfl) hq)
 refine ⟨g y,by show G (f (g y)); rw [hfg]; exact g1,hl.trans hsz,fun j k v hk hv=>g2 j k v ?_ (by rw [Nat.zero_add]; exact hv)⟩;replace hk:(c.k (f (g y)))[j]? = some k:=hk;rw [hfg] at hk;exact hk
end
end Go.Proofs.YtdgejpgbppfhmaaGreatDoor.Eng
namespace Go.Proofs.YtdgejpgbppfhmaaGreatDoor.Eng
open Go.RowKit (Below)
structure PL (cs:List Prop):Prop where
 h:Us cs
theorem pl0:PL []:=⟨trivial⟩
theorem Tu {C:Prop} (x:C):PL [C]:=⟨x⟩
theorem Ur {C D:Prop} (x:C) (y:D):PL [C,D]:=⟨x,y⟩
theorem Uq {C:Prop} (x:C):PL [C,True]:=⟨x,trivial⟩
theorem Tp {C:Prop} {cs:List Prop} (x:C) (y:PL cs):PL (C :: cs):=⟨Us.of_mem fun p hp=>by
 rcases List.mem_cons.1 hp with rfl | hp
 ·exact x
 ·exact y.h.mem p hp⟩
abbrev Uh (t:TypeId) (n:Int):Value:=.iface t (.agg #[.int .i64 n])
section
variable {Tag:Type} {T:Tag→Type}
abbrev T3 (r:AV T) (H':List (Nat×T9 T)):Ut T:={ hids:=[0],fx:=[0],r:=r,H':=H',σ:=[(0,0)] }
abbrev ef (hids fx:List Nat) (r:AV T) (H':List (Nat×T9 T)) (σ:List (Nat×Nat)):Ut T:={ hids:=hids,fx:=fx,r:=r,H':=H',σ:=σ }
def pst (o:Option (List Prop×St T)):St T:=match o with | some (_,S)=>S | none=>⟨[],[]⟩
variable {V:V6 T} {P:Program} {n m:Nat} {Γ:Ue} {S:St T} {Q:Exit→St T→Prop}
theorem Wq {o:Option (List Prop×St T)} {cs:List Prop} (h:o.map (·.1)=some cs):o=some (cs,pst o):=by
 cases o with
 | none=>cases h
 | some p=>obtain ⟨a,b⟩:=p; cases h; rfl
theorem Wk (L:V.E.Law V.isB V.toB) {id:Nat} {ops:Array Oper} (base:Nat) (decs:List (Nat×Bool)) (oras:List (Nat×AV T)) (effs:List (Nat×Ut T)) {cs:List Prop} {S':St T}
  (h:U3 V P n m ops base decs oras effs 0 ops.toList S=some (cs,S')) (hcs:Us cs) (hQ:Q .normal S'):Uc V P n m Γ (.region id ops false) Q S :=
 fun Z ρ a w ha=>wp_region_list (Wu V L ops.toList 0 S Z ρ a w _ S' h hcs ha fun a' w' Z' ρ' ha'=>⟨_,Z',ρ',hQ,ha'⟩)
theorem rg (L:V.E.Law V.isB V.toB) {id:Nat} {ops:Array Oper} (base:Nat) (decs:List (Nat×Bool)) (oras:List (Nat×AV T)) (effs:List (Nat×Ut T)) {cs:List Prop} (p:PL cs) (hQ:Q .normal (pst (U3 V P n m ops base decs oras effs 0 ops.toList S)))
  (h:(U3 V P n m ops base decs oras effs 0 ops.toList S).map (·.1)=some cs:=by kernel_rfl):Uc V P n m Γ (.region id ops false) Q S :=
 Wk L base decs oras effs (Wq h) p.h hQ
theorem sg (L:V.E.Law V.isB V.toB) {id:Nat} {ops:Array Oper} {y:Code} (base:Nat) (decs:List (Nat×Bool)) (oras:List (Nat×AV T)) (effs:List (Nat×Ut T)) {cs:List Prop} (p:PL cs) (hQ:Uc V P n m Γ y Q (pst (U3 V P n m ops base decs oras effs 0 ops.toList S)))
  (h:(U3 V P n m ops base decs oras effs 0 ops.toList S).map (·.1)=some cs:=by kernel_rfl):Uc V P n m Γ (.seq (.region id ops false) y) Q S :=
 Tm (Wk L base decs oras effs (Wq h) p.h hQ)
theorem Wh (L:V.E.Law V.isB V.toB) {id:Nat} {ops:Array Oper} (base:Nat) (hQ:Q .normal (pst (U3 V P n m ops base [] [] [] 0 ops.toList S)))
  (h:(U3 V P n m ops base [] [] [] 0 ops.toList S).map (·.1)=some []:=by kernel_rfl):Uc V P n m Γ (.region id ops false) Q S :=
 Wk L base [] [] [] (Wq h) trivial hQ
theorem Tt (L:V.E.Law V.isB V.toB) {id:Nat} {ops:Array Oper} {y:Code} (base:Nat) (hQ:Uc V P n m Γ y Q (pst (U3 V P n m ops base [] [] [] 0 ops.toList S)))
  (h:(U3 V P n m ops base [] [] [] 0 ops.toList S).map (·.1)=some []:=by kernel_rfl):Uc V P n m Γ (.seq (.region id ops false) y) Q S :=
 Tm (Wk L base [] [] [] (Wq h) trivial hQ)
theorem Abd (L:V.E.Law V.isB V.toB) (hm:P.follows .mixedOrders=true) {id:Nat} {ops:Array Oper} (base:Nat) (decs:List (Nat×Bool)) (oras:List (Nat×AV T)) (effs:List (Nat×Ut T)) (wids:List Nat) (d:Nat) {cs:List Prop} {S':St T}
  (h:Xb V P n m ops base decs oras effs wids d S=some (cs,S')) (hcs:Us cs) (hQ:Q .normal S'):Uc V P n m Γ (.region id ops true) Q S:=by
 intro Z ρ a w ha;unfold Xb at h;split at h
 ·rename_i Rs hRs;cases hb:(Nat.beq Rs.length d && Acu n m base ops S Rs (Vw ops.toList []) wids && Aee ops d) with
  | false=>rw [hb] at h; cases h
  | true =>
   rw [hb] at h;simp only [Bool.and_eq_true] at hb;have hd:=Nat.eq_of_beq_eq_true hb.1.1;subst hd;have hf:=Aag hb.1.2;simp only [cond_true] at h;split at h
   ·rename_i cs2 S3 hsuf;cases h;obtain ⟨hc1,hc2⟩:=hcs.append;refine wp_region_any hm (Y1 L hf hRs (fun R hR=>Us.of_mem fun p hp=>hc1.mem p (List.mem_flatMap.2 ⟨R,hR,hp⟩)) ha fun a w Z ρ ha2=>?_);exact Abj V L Rs.length (Aak hb.2) (ops.size - Rs.length) Rs.length (by have:=hf.len; omega) (Nat.le_refl _) _ Z ρ a w cs2 _ hsuf hc2 ha2 (fun a' w' Z' ρ' h'=>⟨_,Z',ρ',hQ,h'⟩)
   ·cases h
 ·cases h
theorem rd (L:V.E.Law V.isB V.toB) (hm:P.follows .mixedOrders=true) {id:Nat} {ops:Array Oper} (base:Nat) (decs:List (Nat×Bool)) (oras:List (Nat×AV T)) (effs:List (Nat×Ut T)) (wids:List Nat) (d:Nat) {cs:List Prop} (p:PL cs) (hQ:Q .normal (pst (Xb V P n m ops base decs oras effs wids d S)))
  (h:(Xb V P n m ops base decs oras effs wids d S).map (·.1)=some cs:=by kernel_rfl):Uc V P n m Γ (.region id ops true) Q S :=
 Abd L hm base decs oras effs wids d (Wq h) p.h hQ
theorem sd' (L:V.E.Law V.isB V.toB) (hm:P.follows .mixedOrders=true) {id:Nat} {ops:Array Oper} {y:Code} (base:Nat) (decs:List (Nat×Bool)) (oras:List (Nat×AV T)) (effs:List (Nat×Ut T)) (wids:List Nat) (d:Nat) {cs:List Prop} (p:PL cs) (hQ:Uc V P n m Γ y Q (pst (Xb V P n m ops base decs oras effs wids d S)))
  (h:(Xb V P n m ops base decs oras effs wids d S).map (·.1)=some cs:=by kernel_rfl):Uc V P n m Γ (.seq (.region id ops true) y) Q S :=
 Tm (Abd L hm base decs oras effs wids d (Wq h) p.h hQ)
theorem qn (L:V.E.Law V.isB V.toB) {id:Nat} {ops:Array Oper} (base:Nat) (decs:List (Nat×Bool)) (oras:List (Nat×AV T)) (effs:List (Nat×Ut T)) (i:Nat) (e:Ut T) (v:Value) {cs:List Prop} (p:PL cs) (hQ:Q (.panic [{ v:=v,recovered:=false }]) ⟨[],[]⟩)
  (h:Abz V P n m ops base decs oras effs i e v [] [] S=some (cs,⟨[],[]⟩):=by kernel_rfl):Uc V P n m Γ (.region id ops false) Q S:=Ad7 L base decs oras effs i e v [] [] h p.h hQ
theorem qP (L:V.E.Law V.isB V.toB) (hm:P.follows .mixedOrders=true) {id:Nat} {ops:Array Oper} (base:Nat) (decs:List (Nat×Bool)) (oras:List (Nat×AV T)) (effs:List (Nat×Ut T)) (A:List Nat) (c:Nat) (e:Ut T) (v:Value) {cs:List Prop} (p:PL cs) (hQ:Q (.panic [{ v:=v,recovered:=false }]) ⟨[],[]⟩)
  (h:Ae8 V P n m ops base decs oras effs A c e v S=some cs:=by kernel_rfl):Uc V P n m Γ (.region id ops true) Q S:=Af0 V L hm base decs oras effs A c e v h p.h hQ
theorem Vr {fn:Func} {o:Uz T} {r:AV T} {H':List (Nat×T9 T)} (ho:o=.ret r:=by rfl) (h1:(W8 V.E P S fn).map (coA · r)=some r:=by kernel_rfl) (h3:(S.keep [] (H'.map (·.1))).co ⟨[],H'⟩=⟨[],H'⟩:=by kernel_rfl):Ui P V fn o H' .ret S:=by
 subst ho;rw [Option.map_eq_some_iff] at h1;obtain ⟨x,h1,h2⟩:=h1;exact ⟨.inr rfl,x,h1,h2,h3⟩
theorem xn0 {fn:Func} {o:Uz T} {r:AV T} {H':List (Nat×T9 T)} (ho:o=.ret r:=by rfl) (h1:(W8 V.E P S fn).map (coA · r)=some r:=by kernel_rfl) (h3:(S.keep [] (H'.map (·.1))).co ⟨[],H'⟩=⟨[],H'⟩:=by kernel_rfl):Ui P V fn o H' .normal S:=by
 subst ho;rw [Option.map_eq_some_iff] at h1;obtain ⟨x,h1,h2⟩:=h1;exact ⟨.inl rfl,x,h1,h2,h3⟩
theorem Tv {fn:Func} {r:AV T} {H':List (Nat×T9 T)} (h1:(W8 V.E P S fn).map (coA · r)=some r:=by kernel_rfl) (h3:(S.keep [] (H'.map (·.1))).co ⟨[],H'⟩=⟨[],H'⟩:=by kernel_rfl):T2 P V fn r H' .ret S:=by
 rw [Option.map_eq_some_iff] at h1;obtain ⟨x,h1,h2⟩:=h1;exact ⟨.inr rfl,x,h1,h2,h3⟩
theorem en0 {fn:Func} {r:AV T} {H':List (Nat×T9 T)} (h1:(W8 V.E P S fn).map (coA · r)=some r:=by kernel_rfl) (h3:(S.keep [] (H'.map (·.1))).co ⟨[],H'⟩=⟨[],H'⟩:=by kernel_rfl):T2 P V fn r H' .normal S:=by
 rw [Option.map_eq_some_iff] at h1;obtain ⟨x,h1,h2⟩:=h1;exact ⟨.inl rfl,x,h1,h2,h3⟩
theorem rr0 {fn:Func} {o:Uz T} {r:AV T} (ho:o=.ret r:=by rfl) (h1:(W8 V.E P S fn).map (coA · r)=some r:=by kernel_rfl):Xr P V fn o .ret S:=by
 subst ho;rw [Option.map_eq_some_iff] at h1;obtain ⟨x,h1,h2⟩:=h1;exact ⟨.inr rfl,x,h1,h2⟩
theorem Tn.kk (ts ids:List Nat):Tn V n m Γ S (S.keep ts ids):=fun Z ρ a w h=>⟨Z,ρ,h.keep ts ids⟩
theorem Tn.rr (σ:List (Nat×Nat)) (hok:Aec m σ S=true:=by kernel_rfl):Tn V n m Γ S (S.ren σ):=Tn.ren σ hok rfl
def frzS (E:Uv T) (id:Nat) (S:St T):St T:=match Eng.look id S.heap with | some b=>S.frz E id b | none=>S
theorem Tn.fz (id:Nat) (hid:Nat.ble 100 id=true:=by kernel_rfl):Tn V n m Γ S (frzS V.E id S):=by
 unfold frzS;cases h:Eng.look id S.heap with
 | none=>exact Tn.refl
 | some b=>exact Tn.frz id h hid rfl
def ownS (t id:Nat) (tg:Tag) (S:St T):St T:=(S.new id (.lst tg [])).put (some t) (.cv (.own tg id))
theorem Tn.no (t id:Nat) (tg:Tag) (hl:Eng.look t S.tmps=some (.cv (.lit (.slice none 0 0))):=by kernel_rfl) (hok:(Nat.ble m id && !S.named id)=true:=by kernel_rfl):Tn V n m Γ S (ownS t id tg S):=Tn.nilown t id tg hl hok rfl
def rawS:Option (T9 T)→List (CV T)
 | some (.raw cs)=>cs
 | _=>[]
def owncS (b pos id:Nat) (tg:Tag) (S:St T):St T:=⟨S.tmps,(id,.lst tg []) ::(b,.raw ((rawS (Eng.look b S.heap)).set pos (.own tg id))) :: del id (del b S.heap)⟩
theorem Tn.nc (b pos id:Nat) (tg:Tag) (hl:Eng.look b S.heap=some (.raw (rawS (Eng.look b S.heap))):=by kernel_rfl) (hc:(rawS (Eng.look b S.heap))[pos]? = some (.lit (.slice none 0 0)):=by kernel_rfl) (hne:Nat.beq b id=false:=by kernel_rfl) (hok:(Nat.ble m id && !S.named id)=true:=by kernel_rfl):Tn V n m Γ S (owncS b pos id tg S) :=
 Tn.nilownc b pos id tg _ hl hc hne hok rfl
theorem hB (L:V.E.Law V.isB V.toB) (hm:P.follows .mixedOrders=true) {id:Nat} {ops:Array Oper} (base:Nat) (decs:List (Nat×Bool)) (oras:List (Nat×AV T)) (effs:List (Nat×Ut T)) (A:List Nat) (k:Nat) {cs:List Prop} (p:PL cs) {S':St T} (hQ:Q .normal S')
  (h:(Ad3 V P n m ops base decs oras effs A S).map (fun p=>(p.1,p.2.map fun F=>(F.keep S'.ts S'.ids).co S'))=some (cs,List.replicate k S'):=by kernel_rfl):Uc V P n m Γ (.region id ops true) Q S:=Aea V L hm base decs oras effs A k S'.ts S'.ids h p.h hQ
end
end Go.Proofs.YtdgejpgbppfhmaaGreatDoor.Eng
