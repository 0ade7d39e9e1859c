import Derived.Test.YtdgejpgbppfhmaaGreatDoorLwE
set_option linter.unusedVariables false
set_option linter.unusedSimpArgs false
set_option maxHeartbeats 4000000
namespace Go.Proofs.YtdgejpgbppfhmaaGreatDoor
open Eng Go
def Tc:Ge:=[48,49,50,51,52,53,54,55,56,57,97,98,99,100,101,102]
def Iy (n:Nat):UInt8:=Tc.getD n 0
def enc (c:UInt8):Ge :=
 if c.toNat=34∨c.toNat=92 then [92,c] else if c.toNat=10 then [92,110] else if c.toNat=9 then [92,116]
 else if 32≤c.toNat∧c.toNat≤126 then [c] else [92,120,Iy (c.toNat / 16),Iy (c.toNat % 16)]
def quo (s:Ge):Ge:=34 ::(s.flatMap enc++[34])
theorem O6 (c:UInt8):enc c=if c.toNat=34∨c.toNat=92 then [92,c] else if c.toNat=10 then [92,110] else if c.toNat=9 then [92,116]
 else if 32≤c.toNat∧c.toNat≤126 then [c] else [92,120,Iy (c.toNat / 16),Iy (c.toNat % 16)]:=rfl
theorem Rl (c:UInt8):(enc c).length≤4:=by
 unfold enc;split
 ·simp
 ·split
  ·simp
  ·split
   ·simp
   ·split <;> simp
theorem J0:∀ s:Ge,(s.flatMap enc).length≤4 * s.length
 | []=>by simp
 | c :: r=>by
  have h1:=Rl c;have h2:=J0 r;rw [List.flatMap_cons,List.length_append,List.length_cons];omega
theorem J9 {u:Nat} (h:u < 10):Lib.decDigits u=[UInt8.ofNat (48+u)]:=by rw [Lib.decDigits,dif_pos h]
theorem Pb {u:Nat} (h:¬ u < 10):Lib.decDigits u=Lib.decDigits (u / 10)++[UInt8.ofNat (48+u % 10)]:=by rw [Lib.decDigits,dif_neg h]
abbrev Pc:=Ge×Option Tk
def txt (l:List Pc):Ge:=l.flatMap (·.1)
def tks (l:List Pc):List Tk:=l.filterMap (·.2)
def qS (s:Ge):Pc:=(s,some ⟨5,0,s,0⟩)
def qK (s:Ge):Pc:=(s,some ⟨2,0,s,0⟩)
def qN (s:Ge):Pc:=(s,some ⟨1,0,s,0⟩)
def qI (n:Int):Pc:=(Lib.itoa n,some ⟨3,0,[],n⟩)
def qT (s:Ge):Pc:=(quo s,some ⟨4,0,s,0⟩)
def qB:Pc:=([32],none)
def bsg (op:Int):Option (Pc×Nat) :=
 if op=27 then some (qK [111,114],1) else if op=26 then some (qK [97,110,100],2) else if op=20 then some (qS [60],4) else if op=21 then some (qS [60,61],4)
 else if op=22 then some (qS [62],4) else if op=23 then some (qS [62,61],4) else if op=24 then some (qS [61,61],4) else if op=25 then some (qS [33,61],4)
 else if op=18 then some (qS [43],5) else if op=19 then some (qS [45],5) else if op=15 then some (qS [42],6) else if op=16 then some (qS [47],6) else if op=17 then some (qS [37],6) else none
def lv (op:Int):Nat:=match bsg op with
 | some (_,l)=>l
 | none=>if op=13 then 3 else if op=14∨op=12∨op=11 then 7 else 8
abbrev Kp:=Int×List Pc
def opd (k:Kp) (req:Nat):List Pc:=if lv k.1 < req then qS [40] ::(k.2++[qS [41]]) else k.2
def E9:List Kp→List Pc
 | []=>[]
 | [x]=>x.2
 | x :: l=>x.2++qS [44] :: qB :: E9 l
def k0 (l:List Kp):Kp:=l.getD 0 (0,[])
def k1 (l:List Kp):Kp:=l.getD 1 (0,[])
def PX (op:Int) (nm:Ge) (it:Int) (tx:Ge) (l:List Kp):List Pc:=match bsg op with
 | some (sg,v)=>opd (k0 l) (if v=4 then 5 else v)++qB :: sg :: qB :: opd (k1 l) (v+1)
 | none =>
  if op=1 then [qK [110,117,108,108]] else if op=2 then [qK [116,114,117,101]] else if op=3 then [qK [102,97,108,115,101]] else if op=4 then [qI it] else if op=5 then [qT tx] else if op=6 then [qN nm]
  else if op=7 then qS [91] ::(E9 l++[qS [93]]) else if op=8 then qS [123] ::(E9 l++[qS [125]])
  else if op=9 then qT tx :: qS [58] :: qB ::(k0 l).2 else if op=10 then qN nm :: qS [40] ::(E9 l++[qS [41]])
  else if op=11 then qK [103,111] :: qB :: qN nm :: qS [40] ::(E9 l++[qS [41]]) else if op=12 then qK [97,119,97,105,116] :: qB :: opd (k0 l) 7
  else if op=13 then qK [110,111,116] :: qB :: opd (k0 l) 3 else if op=14 then qS [45] :: opd (k0 l) 7
  else if op=28 then opd (k0 l) 8++qS [91] ::((k1 l).2++[qS [93]]) else opd (k0 l) 8++[qS [46],qN nm]
mutual
def pe:Nd→List Pc
 |⟨op,nm,it,tx,ks⟩=>PX op nm it tx (pes ks)
def pes:List Nd→List Kp
 | []=>[]
 | x :: l=>(x.Op,pe x) :: pes l
end
theorem H3 (n:Nd):pe n=PX n.Op n.Name n.Int n.Text (pes n.Kids):=by cases n; rw [pe]
theorem Im (a b:List Pc):txt (a++b)=txt a++txt b:=List.flatMap_append
theorem Hk (a:Pc) (b:List Pc):txt (a :: b)=a.1++txt b:=rfl
theorem I7:txt []=[]:=rfl
theorem Hu (a b:List Pc):tks (a++b)=tks a++tks b:=List.filterMap_append
theorem Nm.L {s:Ge} (h:Nm s):Ph isL s=true:=by
 obtain ⟨h1,h2,h3,h4,h5⟩:=h;cases s with
 | nil=>exact absurd rfl h1
 | cons c r =>
  have:=h5 c (.head _)
  unfold isW at this;have hD:isD c=false:=h4;rw [hD] at this;show isL c=true;simpa using this
mutual
def Rg:Nd→Prop
 |⟨_,_,it,_,ks⟩=>it≤9223372036854775807∧Rgs ks
def Rgs:List Nd→Prop
 | []=>True
 | x :: l=>Rg x∧Rgs l
end
theorem I8 (n:Nd):Rg n=(n.Int≤9223372036854775807∧Rgs n.Kids):=by cases n; rw [Rg]
theorem H4:∀ l,Rgs l↔∀ x∈l,Rg x
 | []=>by simp [Rgs]
 | x :: l=>by rw [Rgs,H4 l]; simp
theorem P4 {op:Int} (h:op < 15∨27 < op):bsg op=none:=by
 unfold bsg;rw [if_neg (by omega),if_neg (by omega),if_neg (by omega),if_neg (by omega),if_neg (by omega),if_neg (by omega),if_neg (by omega),if_neg (by omega),if_neg (by omega),if_neg (by omega),if_neg (by omega),if_neg (by omega),if_neg (by omega)]
theorem Lz {op:Int} {p:Pc×Nat} (h:bsg op=some p):15≤op∧op≤27:=by
 by_cases h1:op < 15∨27 < op
 ·rw [P4 h1] at h; cases h
 ·omega
theorem Ms {op:Int} (h:15≤op∧op≤27):∃ sg v,bsg op=some (sg,v):=by
 have:op=15∨op=16∨op=17∨op=18∨op=19∨op=20∨op=21∨op=22∨op=23∨op=24∨op=25∨op=26∨op=27:=by omega
 rcases this with rfl | rfl | rfl | rfl | rfl | rfl | rfl | rfl | rfl | rfl | rfl | rfl | rfl <;> exact ⟨_,_,rfl⟩
theorem Lx {x:Nd} {l:List Nd}:k0 (pes (x :: l))=(x.Op,pe x):=rfl
theorem L1 {x z:Nd} {l:List Nd}:k1 (pes (x :: z :: l))=(z.Op,pe z):=rfl
theorem Gi {l:List Nd} (h:(l.length:Int)=1):∃ x,l=[x]:=by
 match l,h with
 | [x],_=>exact ⟨x,rfl⟩
 | [],h=>simp at h
 | x :: y :: l,h=>exfalso; simp at h; omega
theorem Iq {l:List Nd} (h:(l.length:Int)=2):∃ x y,l=[x,y]:=by
 match l,h with
 | [x,y],_=>exact ⟨x,y,rfl⟩
 | [],h=>simp at h
 | [x],h=>simp at h
 | x :: y :: z :: l,h=>exfalso; simp at h; omega
def te (x:Nd):List Tk:=tks (pe x)
def tq (x:Nd) (q:Nat):List Tk:=tks (opd (x.Op,pe x) q)
abbrev tS (s:Ge):Tk:=⟨5,0,s,0⟩
abbrev tK (s:Ge):Tk:=⟨2,0,s,0⟩
abbrev tN (s:Ge):Tk:=⟨1,0,s,0⟩
theorem Kk (s w:Ge) (r:List Tk):isS s (tS w :: r)=decide (w=s):=by simp [isS]
theorem K6 (s w:Ge) (r:List Tk):isS s (tK w :: r)=decide (w=s):=by simp [isS]
theorem M0 {t:Tk} (h:t.Kind≠2∧t.Kind≠5) (s:Ge) (r:List Tk):¬ isS s (t :: r)=true:=by simp [isS,h.1,h.2]
def St (q:Nat) (r:List Tk):Prop:=(q≤1→Hq Pa r=none)∧(q≤2→Hq Mf r=none)∧(q≤4→Hq K9 r=none)∧(q≤5→Hq L3 r=none)∧(q≤6→Hq Lu r=none)∧¬ isS [46] r=true∧¬ isS [91] r=true∧¬ isS [40] r=true
theorem St.mono {q q':Nat} {r:List Tk} (h:St q r) (hq:q≤q'):St q' r:=⟨fun a=>h.1 (by omega),fun a=>h.2.1 (by omega),fun a=>h.2.2.1 (by omega),fun a=>h.2.2.2.1 (by omega),fun a=>h.2.2.2.2.1 (by omega),h.2.2.2.2.2⟩
theorem Rk {w:Ge} (h:w∈([[41],[93],[125],[123],[44],[59],[58]]:List Ge)) (r:List Tk):St 1 (tS w :: r):=by
 have key:∀ w∈([[41],[93],[125],[123],[44],[59],[58]]:List Ge),∀ s∈([[111,114],[97,110,100],[60],[60,61],[62],[62,61],[61,61],[33,61],[43],[45],[42],[47],[37],[46],[91],[40]]:List Ge),w≠s:=by decide
 have k2:∀ s∈([[111,114],[97,110,100],[60],[60,61],[62],[62,61],[61,61],[33,61],[43],[45],[42],[47],[37],[46],[91],[40]]:List Ge),isS s (tS w :: r)=false:=fun s hs=>by rw [Kk]; exact decide_eq_false (key w h s hs)
 simp only [List.mem_cons,List.not_mem_nil,or_false,forall_eq_or_imp,forall_eq] at k2;obtain ⟨a1,a2,a3,a4,a5,a6,a7,a8,a9,a10,a11,a12,a13,a14,a15,a16⟩:=k2;refine ⟨fun _=>?_,fun _=>?_,fun _=>?_,fun _=>?_,fun _=>?_,by rw [a14]; decide,by rw [a15]; decide,by rw [a16]; decide⟩
 ·simp [Pa,Hq,a1]
 ·simp [Mf,Hq,a2]
 ·simp [K9,Hq,a3,a4,a5,a6,a7,a8]
 ·simp [L3,Hq,a9,a10]
 ·simp [Lu,Hq,a11,a12,a13]
def Rq (v:Nat):Ops:=if v=1 then Pa else if v=2 then Mf else if v=4 then K9 else if v=5 then L3 else Lu
theorem Md {op:Int} {sg:Pc} {v:Nat} (h:bsg op=some (sg,v)):∃ t,sg.2=some t∧(∀ r,St (v+1) (t :: r)∧Hq (Rq v) (t :: r)=some op)∧(v=1∨v=2∨v=4∨v=5∨v=6):=by
 have:=Lz h
 have ho:op=15∨op=16∨op=17∨op=18∨op=19∨op=20∨op=21∨op=22∨op=23∨op=24∨op=25∨op=26∨op=27:=by omega
 rcases ho with rfl | rfl | rfl | rfl | rfl | rfl | rfl | rfl | rfl | rfl | rfl | rfl | rfl <;> cases h <;>
  exact ⟨_,rfl,fun r=>⟨⟨fun h=>by first | omega | rfl,fun h=>by first | omega | rfl,fun h=>by first | omega | rfl,fun h=>by first | omega | rfl,fun h=>by first | omega | rfl,(by intro h; cases h),(by intro h; cases h),(by intro h; cases h)⟩,rfl⟩,by decide⟩
theorem Ke (op:Int):1≤lv op∧lv op≤8:=by
 unfold lv;cases h:bsg op with
 | none =>
  dsimp only;split
  ·omega
  ·split <;> omega
 | some p =>
  obtain ⟨sg,v⟩:=p;obtain ⟨t,_,_,hv⟩:=Md h;dsimp only; omega
theorem H9 {x:Nd} {q:Nat} (h:q≤lv x.Op):tq x q=te x:=by
 unfold tq opd te;rw [if_neg (by show ¬ lv x.Op < q; omega)]
theorem Lh {x:Nd} {q:Nat} (h:lv x.Op < q):tq x q=tS [40] ::(te x++[tS [41]]):=by
 unfold tq opd te;rw [if_pos (show lv (x.Op,pe x).1 < q from h)];show tS [40] :: tks (pe x++[qS [41]])=_;rw [Hu]; rfl
theorem Mp {x:Nd} {q q':Nat} (h:lv x.Op < q∧lv x.Op < q'∨q≤lv x.Op∧q'≤lv x.Op):tq x q=tq x q':=by
 rcases h with ⟨h1,h2⟩ |⟨h1,h2⟩
 ·rw [Lh h1,Lh h2]
 ·rw [H9 h1,H9 h2]
def Hd8 (l:List Tk):Prop:=∃ t u,l=t :: u∧∀ r,¬ isS [45] (t :: r)=true∧¬ isS [97,119,97,105,116] (t :: r)=true∧¬ isS [103,111] (t :: r)=true∧¬ isS [110,111,116] (t :: r)=true
def Hd5 (l:List Tk):Prop:=∃ t u,l=t :: u∧∀ r,¬ isS [110,111,116] (t :: r)=true
theorem Hd8.to5 {l:List Tk} (h:Hd8 l):Hd5 l:=by
 obtain ⟨t,u,e,h⟩:=h; exact ⟨t,u,e,fun r=>(h r).2.2.2⟩
theorem Hd8.app {l m:List Tk} (h:Hd8 l):Hd8 (l++m):=by
 obtain ⟨t,u,rfl,h⟩:=h; exact ⟨t,u++m,rfl,h⟩
theorem Hd5.app {l m:List Tk} (h:Hd5 l):Hd5 (l++m):=by
 obtain ⟨t,u,rfl,h⟩:=h; exact ⟨t,u++m,rfl,h⟩
theorem Rp {w:Ge} (h:w∈([[40],[91],[123]]:List Ge)) (u:List Tk):Hd8 (tS w :: u):=by
 have key:∀ w∈([[40],[91],[123]]:List Ge),w≠[45]∧w≠[97,119,97,105,116]∧w≠[103,111]∧w≠[110,111,116]:=by decide
 obtain ⟨a1,a2,a3,a4⟩:=key w h;exact ⟨_,u,rfl,fun r=>⟨by rw [Kk]; simpa using a1,by rw [Kk]; simpa using a2,by rw [Kk]; simpa using a3,by rw [Kk]; simpa using a4⟩⟩
theorem Th {w:Ge} (h:w∈([[110,117,108,108],[116,114,117,101],[102,97,108,115,101]]:List Ge)) (u:List Tk):Hd8 (tK w :: u):=by
 have key:∀ w∈([[110,117,108,108],[116,114,117,101],[102,97,108,115,101]]:List Ge),w≠[45]∧w≠[97,119,97,105,116]∧w≠[103,111]∧w≠[110,111,116]:=by decide
 obtain ⟨a1,a2,a3,a4⟩:=key w h;exact ⟨_,u,rfl,fun r=>⟨by rw [K6]; simpa using a1,by rw [K6]; simpa using a2,by rw [K6]; simpa using a3,by rw [K6]; simpa using a4⟩⟩
theorem Rf {t:Tk} (h:t.Kind≠2∧t.Kind≠5) (u:List Tk):Hd8 (t :: u):=⟨t,u,rfl,fun r=>⟨M0 h _ _,M0 h _ _,M0 h _ _,M0 h _ _⟩⟩
def p8 (f:Nat) (ts:List Tk):Rs Nd:=bnd ((SPu f).pm ts) fun a ts=>Il (SPu f).ex (ts.length+1) a ts
def cond (f q:Nat) (x:Nd):Prop:=(if q≤lv x.Op then 16 * ndp x else 16 * ndp x+8)≤f+q
theorem Ix (x:Nd):1≤ndp x:=by rw [Hp]; omega
def B8 (x:Nd):Prop:=Hd8 (tq x 8)∧∀ f,cond f 8 x→∀ rest,¬ isS [40] rest=true→∃ k,rest.length < k∧p8 f (tq x 8++rest)=Il (SPu f).ex k x rest
def B7 (x:Nd):Prop:=Hd5 (tq x 7)∧∀ f,cond f 7 x→∀ r,St 7 r→(SPu f).un (tq x 7++r)=some (.ok (x,r))
def BC (q:Nat) (p sub:SP→List Tk→Rs Nd) (x:Nd):Prop:=∀ f,cond f q x→∀ rest,St (q+1) rest→∃ k,rest.length < k∧p (SPu f) (tq x q++rest)=Jg (sub (SPu (f - 1))) (Rq q) k x rest
def BD (q:Nat) (p:SP→List Tk→Rs Nd) (x:Nd):Prop:=∀ f,cond f q x→∀ r,St q r→p (SPu f) (tq x q++r)=some (.ok (x,r))
theorem St.ops {q:Nat} {r:List Tk} (h:St q r) (hq:q=1∨q=2∨q=5∨q=6):Hq (Rq q) r=none:=by
 rcases hq with rfl | rfl | rfl | rfl
 ·exact h.1 (by omega)
 ·exact h.2.1 (by omega)
 ·exact h.2.2.2.1 (by omega)
 ·exact h.2.2.2.2.1 (by omega)
theorem BC.D {q:Nat} {p sub:SP→List Tk→Rs Nd} {x:Nd} (hq:q=1∨q=2∨q=5∨q=6) (h:BC q p sub x):BD q p x:=fun f hc r hr=>by
 obtain ⟨k,hk,e⟩:=h f hc r (hr.mono (by omega));obtain ⟨k,rfl⟩:∃ j,k=j+1:=⟨k - 1,by omega⟩
 rw [e];unfold Jg;rw [hr.ops hq]
theorem BC.up {q q':Nat} {p sub:SP→List Tk→Rs Nd} {x:Nd} (hp:∀ f ts,p (SPu (f+1)) ts=Lk (sub (SPu f)) (Rq q) ts) (hq':q'=q+1) (hq:q≤8) (hx:lv x.Op≠q) (h:BD q' sub x):BC q p sub x:=fun f hc rest hr=>by
 subst hq';have hd:=Ix x;have hf:1≤f:=by unfold cond at hc; split at hc <;> omega
 obtain ⟨f,rfl⟩:∃ j,f=j+1:=⟨f - 1,by omega⟩
 refine ⟨rest.length+1,by omega,?_⟩;rw [hp];unfold Lk;have e:tq x q=tq x (q+1):=Mp (by omega);have hc':cond f (q+1) x:=by
  unfold cond at hc ⊢;split at hc
  ·rw [if_pos (by omega)]; omega
  ·rw [if_neg (by omega)]; omega
 rw [e,h f hc' rest hr];rfl
theorem M3 {sub:List Tk→Rs Nd} {ops:Ops} {k:Nat} {y:Nd} {t:Tk} {r:List Tk} {op:Int} (h:Hq ops (t :: r)=some op):Jg sub ops (k+1) y (t :: r)=bnd (sub r) fun b ts=>Jg sub ops k (nd op [y,b]) ts:=by
 conv=>lhs; unfold Jg
 rw [h]; rfl
theorem BC.own {q:Nat} {p sub:SP→List Tk→Rs Nd} {x y z:Nd} {sg:Pc} (hq:q=1∨q=2∨q=5∨q=6) (hb:bsg x.Op=some (sg,q)) (hx:x=nd x.Op [y,z]) (hy:BC q p sub y) (hz:BD (q+1) sub z):BC q p sub x:=fun f hc rest hr=>by
 obtain ⟨t,ht,hs,_⟩:=Md hb;have hl:lv x.Op=q:=by unfold lv; rw [hb]
 have hd:=Ix x;have hk:x.Kids=[y,z]:=by rw [hx]
 have hdx:=Hp x;rw [hk] at hdx;simp only [ldp] at hdx;have hc0:16 * ndp x≤f+q:=by unfold cond at hc; rw [if_pos (by omega)] at hc; exact hc
 have e:tq x q=tq y q++t :: tq z (q+1):=by
  rw [H9 (by omega)];unfold te;rw [H3];unfold PX;rw [hb];rw [hk,Lx,L1];dsimp only;rw [if_neg (show ¬ q=4 by omega),Hu];show _++tks (sg :: qB :: _)=_;unfold tks;rw [List.filterMap_cons_some ht]; rfl
 rw [e,List.append_assoc];obtain ⟨k,hk,e1⟩:=hy f (by unfold cond; split <;> omega) (t :: tq z (q+1)++rest) (hs _).1;obtain ⟨k,rfl⟩:∃ j,k=j+1:=⟨k - 1,by omega⟩
 refine ⟨k,by simp at hk; omega,?_⟩;rw [e1];have e2:=hz (f - 1) (by unfold cond; split <;> omega) rest hr;rw [List.cons_append,M3 (hs _).2,e2];show Jg _ _ k (nd x.Op [y,z]) rest=_;rw [← hx]
def Lfb:List Ge:=[[41],[93],[125],[108,101,116],[105,102],[119,104,105,108,101],[114,101,116,117,114,110],[116,104,114,111,119],[116,114,121],[115,97,103,97],[117,110,100,111],[115,101,108,101,99,116],[101,108,115,101],[99,97,115,101],[59]]
def Hde (l:List Tk):Prop:=∃ t u,l=t :: u∧∀ s∈Lfb,∀ r,¬ isS s (t :: r)=true
theorem Hde.app {l m:List Tk} (h:Hde l):Hde (l++m):=by
 obtain ⟨t,u,rfl,h⟩:=h; exact ⟨t,u++m,rfl,h⟩
theorem Om {w:Ge} (h:w∈([[40],[91],[123],[45]]:List Ge)) (u:List Tk):Hde (tS w :: u):=by
 have key:∀ w∈([[40],[91],[123],[45]]:List Ge),∀ s∈Lfb,w≠s:=by decide
 exact ⟨_,u,rfl,fun s hs r=>by rw [Kk]; simpa using key w h s hs⟩
theorem Li {w:Ge} (h:w∈([[110,117,108,108],[116,114,117,101],[102,97,108,115,101],[97,119,97,105,116],[103,111],[110,111,116]]:List Ge)) (u:List Tk):Hde (tK w :: u):=by
 have key:∀ w∈([[110,117,108,108],[116,114,117,101],[102,97,108,115,101],[97,119,97,105,116],[103,111],[110,111,116]]:List Ge),∀ s∈Lfb,w≠s:=by decide
 exact ⟨_,u,rfl,fun s hs r=>by rw [K6]; simpa using key w h s hs⟩
theorem Mr {t:Tk} (h:t.Kind≠2∧t.Kind≠5) (u:List Tk):Hde (t :: u):=⟨t,u,rfl,fun s _ r=>M0 h _ _⟩
theorem Nw {x:Nd} (h:Hde (te x)) (q:Nat):Hde (tq x q):=by
 by_cases hq:q≤lv x.Op
 ·rw [H9 hq]; exact h
 ·rw [Lh (by omega)]; exact Om (by decide) _
def H5 (x:Nd):Prop:=Hd5 (tq x 5)
theorem H5.six {x:Nd} (h:H5 x):Hd5 (tq x 6):=by
 by_cases h5:lv x.Op=5
 ·rw [Lh (by omega)]; exact (Rp (by decide) _).to5
 ·rw [Mp (q':=5) (by omega)]; exact h
theorem Mq {f:Nat} {w:Ge} {ts:List Tk} (s:Ge) (h:w≠s):¬ isS s (tS w :: ts)=true:=by rw [Kk]; simpa using h
theorem Qt {w:Ge} {ts:List Tk} (s:Ge) (h:w≠s):¬ isS s (tK w :: ts)=true:=by rw [K6]; simpa using h
theorem Jv {w:Ge} {ts:List Tk}:isS w (tS w :: ts)=true:=by rw [Kk]; simp
theorem Qd {w:Ge} {ts:List Tk}:isS w (tK w :: ts)=true:=by rw [K6]; simp
theorem Kd (w:Ge) (ts:List Tk):Ij w (tS w :: ts)=pok () ts:=by unfold Ij; rw [if_pos Jv]; rfl
theorem Mg {R:SP} {w:Ge} (hw:w=[40]∨w=[91]∨w=[123]) {ts:List Tk}:pmF R (tS w :: ts)=if w=[91] then bnd (It [93] R.ex ts) (fun ks ts=>pok (nd 7 ks) ts) else if w=[123] then bnd (It [125] R.pr ts) (fun ks ts=>pok (nd 8 ks) ts) else bnd (R.ex ts) fun a ts=>bnd (Ij [41] ts) fun _ ts=>pok a ts:=by
 unfold pmF;have hl:Qn (tS w :: ts)=none:=by
  simp only [Qn,Qj,Hq];rcases hw with rfl | rfl | rfl <;> rfl
 rw [hl];simp only [Jx];rw [if_neg (by decide)];dsimp only;rcases hw with rfl | rfl | rfl
 ·rw [if_neg (Mq (f:=0) _ (by decide)),if_neg (Mq (f:=0) _ (by decide)),if_neg (by decide),if_neg (by decide),Kd]; rfl
 ·rw [if_pos Jv,if_pos rfl]; rfl
 ·rw [if_neg (Mq (f:=0) _ (by decide)),if_pos Jv,if_neg (by decide),if_pos rfl]; rfl
theorem R6 {e:Ge} (he:e∈([[41],[93],[125]]:List Ge)) {el:List Tk→Rs Nd}:∀ (l:List Nd) (x:Nd),(∀ z∈x :: l,∀ r,St 1 r→el (te z++r)=some (.ok (z,r)))→∀ (k:Nat) (acc:List Nd) (rest:List Tk),l.length < k →
  J7 e el k acc (tks (E9 (pes (x :: l)))++tS e :: rest)=some (.ok (acc++x :: l,rest))
 | [],x,h,k,acc,rest,hk=>by
  obtain ⟨k,rfl⟩:∃ j,k=j+1:=⟨k - 1,by simp at hk; omega⟩
  have he':e∈([[41],[93],[125],[123],[44],[59],[58]]:List Ge):=by
   simp only [List.mem_cons,List.not_mem_nil,or_false] at he ⊢;rcases he with h | h | h <;> simp [h]
  unfold J7;show bnd (el (te x++tS e :: rest)) _=_;rw [h x (.head _) _ (Rk he' rest),Hg,if_pos Jv]; rfl
 | z :: l,x,h,k,acc,rest,hk=>by
  obtain ⟨k,rfl⟩:∃ j,k=j+1:=⟨k - 1,by omega⟩
  have hc:[44]≠e:=by
   intro h0; subst h0; revert he; decide
  have e1:tks (E9 (pes (x :: z :: l)))++tS e :: rest=te x++tS [44] ::(tks (E9 (pes (z :: l)))++tS e :: rest):=by
   show tks (pe x++qS [44] :: qB :: E9 (pes (z :: l)))++_=_;rw [Hu,List.append_assoc]; rfl
  rw [e1];unfold J7;rw [h x (.head _) _ (Rk (by decide) _),Hg,if_neg (Mq (f:=0) _ hc),Kd,Hg];rw [R6 he l z (fun w hw=>h w (.tail _ hw)) k _ rest (by simp at hk; omega)];simp
theorem P2 {e:Ge} (he:e∈([[41],[93],[125]]:List Ge)) {el:List Tk→Rs Nd} {l:List Nd} (h:∀ z∈l,∀ r,St 1 r→el (te z++r)=some (.ok (z,r))) (hh:∀ z∈l,Hde (te z)) (rest:List Tk) :
  It e el (tks (E9 (pes l))++tS e :: rest)=some (.ok (l,rest)):=by
 cases l with
 | nil =>
  show It e el (tS e :: rest)=_;unfold It;rw [if_pos Jv]; rfl
 | cons x l =>
  have hl:∀ (l:List Nd) (x:Nd),(∀ z∈x :: l,Hde (te z))→Hde (tks (E9 (pes (x :: l))))∧(x :: l).length≤(tks (E9 (pes (x :: l)))).length:=by
   intro l
   induction l with
   | nil =>
    intro x h;obtain ⟨t,u,e,_⟩:=h x (.head _);refine ⟨h x (.head _),?_⟩;show 1≤(te x).length;rw [e]; simp
   | cons z l ih =>
    intro x h;obtain ⟨i1,i2⟩:=ih z fun w hw=>h w (.tail _ hw)
    have e1:tks (E9 (pes (x :: z :: l)))=te x++tS [44] :: tks (E9 (pes (z :: l))):=by
     show tks (pe x++qS [44] :: qB :: E9 (pes (z :: l)))=_;rw [Hu]; rfl
    rw [e1];refine ⟨(h x (.head _)).app,?_⟩;simp at i2 ⊢; omega
  obtain ⟨⟨t,u,e1,e2⟩,h2⟩:=hl l x hh;unfold It;have he2:∀ e∈([[41],[93],[125]]:List Ge),e∈Lfb:=by decide
  rw [if_neg (by rw [e1]; exact e2 e (he2 e he) _)]
  have:=R6 he l x h ((tks (E9 (pes (x :: l)))++tS e :: rest).length+1) [] rest (by simp at h2 ⊢; omega)
  simpa using this
theorem B8.paren {x:Nd} (hx:lv x.Op < 8) (h:BD 1 SP.ex x):B8 x:=by
 refine ⟨by rw [Lh hx]; exact Rp (by decide) _,fun f hc rest hr=>⟨rest.length+1,by omega,?_⟩⟩;unfold cond at hc;rw [if_neg (by omega)] at hc;have hd:=Ix x;obtain ⟨f,rfl⟩:∃ j,f=j+1:=⟨f - 1,by omega⟩
 rw [Lh hx];unfold p8;show bnd (pmF (SPu f) (tS [40] ::(te x++[tS [41]]++rest))) _=_;rw [Mg (.inl rfl),if_neg (by decide),if_neg (by decide),List.append_assoc];have hl:=Ke x.Op;have e:=h f (by unfold cond; rw [if_pos (by omega)]; omega) (tS [41] :: rest) (Rk (by decide) rest);rw [H9 (by omega)] at e;show bnd (bnd ((SPu f).ex (te x++tS [41] :: rest)) _) _=_;rw [e,Hg,Kd,Hg]; rfl
theorem B8.prim {x:Nd} (hx:lv x.Op=8) (hh:Hd8 (te x)) (h:∀ f,16 * ndp x≤f+8→∀ rest,¬ isS [40] rest=true→(SPu f).pm (te x++rest)=some (.ok (x,rest))):B8 x:=by
 refine ⟨by rw [H9 (by omega)]; exact hh,fun f hc rest hr=>⟨rest.length+1,by omega,?_⟩⟩;unfold cond at hc;rw [if_pos (by omega)] at hc;rw [H9 (by omega)];unfold p8;rw [h f hc rest hr,Hg]
theorem Pk {ex:List Tk→Rs Nd} {k:Nat} {y:Nd} {s:Ge} {r:List Tk}:Il ex (k+1) y (tS [46] :: tN s :: r)=Il ex k ⟨29,s,0,[],[y]⟩ r:=by
 conv=>lhs; unfold Il
 rw [if_pos Jv]; rfl
theorem Pg {ex:List Tk→Rs Nd} {k:Nat} {y z:Nd} {ts r:List Tk} (h:ex ts=some (.ok (z,tS [93] :: r))):Il ex (k+1) y (tS [91] :: ts)=Il ex k (nd 28 [y,z]) r:=by
 conv=>lhs; unfold Il
 rw [if_neg (Mq (f:=0) _ (by decide)),if_pos Jv];show bnd (ex ts) _=_;rw [h,Hg,Kd,Hg]
theorem B8.field {x y:Nd} {s:Ge} (hx:x=⟨29,s,0,[],[y]⟩) (hy:B8 y):B8 x:=by
 have hk:x.Kids=[y]:=by rw [hx]
 have hdx:=Hp x;rw [hk] at hdx;simp only [ldp] at hdx;have ho:x.Op=29:=by rw [hx]
 have hl:lv x.Op=8:=by rw [ho]; rfl
 have e:tq x 8=tq y 8++[tS [46],tN s]:=by
  rw [H9 (by omega),hx];show tks (pe ⟨29,s,0,[],[y]⟩)=_;rw [H3];show tks (opd (y.Op,pe y) 8++[qS [46],qN s])=_;rw [Hu]; rfl
 refine ⟨by rw [e]; exact hy.1.app,fun f hc rest hr=>?_⟩;have hc':16 * ndp x≤f+8:=by
  unfold cond at hc; rw [if_pos (by omega)] at hc; exact hc
 obtain ⟨k,h1,h2⟩:=hy.2 f (by unfold cond; split <;> omega) (tS [46] :: tN s :: rest) (Mq (f:=0) _ (by decide));obtain ⟨k,rfl⟩:∃ j,k=j+1:=⟨k - 1,by omega⟩
 refine ⟨k,by simp at h1; omega,?_⟩;rw [e,List.append_assoc];show p8 f (tq y 8++tS [46] :: tN s :: rest)=_;rw [h2,Pk,hx]
theorem B8.index {x y z:Nd} (hx:x=nd 28 [y,z]) (hy:B8 y) (hz:BD 1 SP.ex z):B8 x:=by
 have hk:x.Kids=[y,z]:=by rw [hx]
 have hdx:=Hp x;rw [hk] at hdx;simp only [ldp] at hdx;have ho:x.Op=28:=by rw [hx]
 have hl:lv x.Op=8:=by rw [ho]; rfl
 have hlz:=Ke z.Op;have e:tq x 8=tq y 8++tS [91] ::(te z++[tS [93]]):=by
  rw [H9 (by omega),hx];show tks (pe (nd 28 [y,z]))=_;rw [H3];show tks (opd (y.Op,pe y) 8++qS [91] ::(pe z++[qS [93]]))=_;rw [Hu];show _++tS [91] :: tks (pe z++[qS [93]])=_;rw [Hu]; rfl
 refine ⟨by rw [e]; exact hy.1.app,fun f hc rest hr=>?_⟩;have hc':16 * ndp x≤f+8:=by
  unfold cond at hc; rw [if_pos (by omega)] at hc; exact hc
 have ez:=hz f (by unfold cond; rw [if_pos (by omega)]; omega) (tS [93] :: rest) (Rk (by decide) rest);rw [H9 (by omega)] at ez;obtain ⟨k,h1,h2⟩:=hy.2 f (by unfold cond; split <;> omega) (tS [91] ::(te z++tS [93] :: rest)) (Mq (f:=0) _ (by decide));obtain ⟨k,rfl⟩:∃ j,k=j+1:=⟨k - 1,by omega⟩
 refine ⟨k,by simp at h1; omega,?_⟩;rw [e,List.append_assoc,List.cons_append,List.append_assoc];show p8 f (tq y 8++tS [91] ::(te z++tS [93] :: rest))=_;rw [h2,Pg ez,hx]
theorem Ny {ex:List Tk→Rs Nd} {k:Nat} {x:Nd} {r:List Tk} (h1:¬ isS [46] r=true) (h2:¬ isS [91] r=true):Il ex (k+1) x r=some (.ok (x,r)):=by
 unfold Il;rw [if_neg h1,if_neg h2]
theorem B8.up7 {x:Nd} (h:B8 x) (hx:lv x.Op≠7):B7 x:=by
 have hlx:=Ke x.Op;have e:tq x 7=tq x 8:=Mp (by omega);refine ⟨by rw [e]; exact h.1.to5,fun f hc r hr=>?_⟩;have hd:=Ix x;have hf:1≤f:=by unfold cond at hc; split at hc <;> omega
 obtain ⟨f,rfl⟩:∃ j,f=j+1:=⟨f - 1,by omega⟩
 have hc':cond f 8 x:=by
  unfold cond at hc ⊢;split at hc
  ·rw [if_pos (by omega)]; omega
  ·rw [if_neg (by omega)]; omega
 obtain ⟨k,h1,h2⟩:=h.2 f hc' r hr.2.2.2.2.2.2.2;obtain ⟨k,rfl⟩:∃ j,k=j+1:=⟨k - 1,by omega⟩
 obtain ⟨t,u,e1,e2⟩:=h.1;rw [e];show unF (SPu f) (tq x 8++r)=_;unfold unF;have e3:tq x 8++r=t ::(u++r):=by rw [e1]; rfl
 obtain ⟨g1,g2,g3,_⟩:=e2 (u++r);rw [if_neg (by rw [e3]; exact g1),if_neg (by rw [e3]; exact g2),if_neg (by rw [e3]; exact g3)];show p8 f (tq x 8++r)=_;rw [h2];exact Ny hr.2.2.2.2.2.1 hr.2.2.2.2.2.2.1
theorem B7.neg {x y:Nd} (hx:x=nd 14 [y]) (hy:B7 y):B7 x:=by
 have hk:x.Kids=[y]:=by rw [hx]
 have hdx:=Hp x;rw [hk] at hdx;simp only [ldp] at hdx;have ho:x.Op=14:=by rw [hx]
 have hl:lv x.Op=7:=by rw [ho]; rfl
 have e:tq x 7=tS [45] :: tq y 7:=by
  rw [H9 (by omega),hx];show tks (pe (nd 14 [y]))=_;rw [H3]; rfl
 refine ⟨⟨_,_,e,fun r=>Mq (f:=0) _ (by decide)⟩,fun f hc r hr=>?_⟩;have hc':16 * ndp x≤f+7:=by
  unfold cond at hc; rw [if_pos (by omega)] at hc; exact hc
 obtain ⟨f,rfl⟩:∃ j,f=j+1:=⟨f - 1,by omega⟩
 rw [e];show unF (SPu f) (tS [45] ::(tq y 7++r))=_;unfold unF;rw [if_pos Jv];show bnd ((SPu f).un (tq y 7++r)) _=_;rw [hy.2 f (by unfold cond; split <;> omega) r hr,Hg,hx]
theorem B7.await {x y:Nd} (hx:x=nd 12 [y]) (hy:B7 y):B7 x:=by
 have hk:x.Kids=[y]:=by rw [hx]
 have hdx:=Hp x;rw [hk] at hdx;simp only [ldp] at hdx;have ho:x.Op=12:=by rw [hx]
 have hl:lv x.Op=7:=by rw [ho]; rfl
 have e:tq x 7=tK [97,119,97,105,116] :: tq y 7:=by
  rw [H9 (by omega),hx];show tks (pe (nd 12 [y]))=_;rw [H3]; rfl
 refine ⟨⟨_,_,e,fun r=>Qt _ (by decide)⟩,fun f hc r hr=>?_⟩;have hc':16 * ndp x≤f+7:=by
  unfold cond at hc; rw [if_pos (by omega)] at hc; exact hc
 obtain ⟨f,rfl⟩:∃ j,f=j+1:=⟨f - 1,by omega⟩
 rw [e];show unF (SPu f) (tK [97,119,97,105,116] ::(tq y 7++r))=_;unfold unF;rw [if_neg (Qt _ (by decide)),if_pos Qd];show bnd ((SPu f).un (tq y 7++r)) _=_;rw [hy.2 f (by unfold cond; split <;> omega) r hr,Hg,hx]
theorem O1 {R:SP} {op:Int} {s:Ge} {l:List Nd} (h:∀ z∈l,∀ r,St 1 r→R.ex (te z++r)=some (.ok (z,r))) (hh:∀ z∈l,Hde (te z)) (rest:List Tk):J6 R op s (tS [40] ::(tks (E9 (pes l))++tS [41] :: rest))=some (.ok (⟨op,s,0,[],l⟩,rest)):=by
 unfold J6;rw [Kd,Hg,P2 (by decide) h hh rest,Hg]
theorem B7.go {x:Nd} {s:Ge} {l:List Nd} (hx:x=⟨11,s,0,[],l⟩) (h:∀ z∈l,BD 1 SP.ex z) (hh:∀ z∈l,Hde (te z)):B7 x:=by
 have hk:x.Kids=l:=by rw [hx]
 have hdx:=Hp x;rw [hk] at hdx;have ho:x.Op=11:=by rw [hx]
 have hl:lv x.Op=7:=by rw [ho]; rfl
 have e:tq x 7=tK [103,111] :: tN s :: tS [40] ::(tks (E9 (pes l))++[tS [41]]):=by
  rw [H9 (by omega),hx];show tks (pe ⟨11,s,0,[],l⟩)=_;rw [H3];show tK [103,111] :: tN s :: tS [40] :: tks (E9 (pes l)++[qS [41]])=_;rw [Hu]; rfl
 refine ⟨⟨_,_,e,fun r=>Qt _ (by decide)⟩,fun f hc r hr=>?_⟩;have hc':16 * ndp x≤f+7:=by
  unfold cond at hc; rw [if_pos (by omega)] at hc; exact hc
 obtain ⟨f,rfl⟩:∃ j,f=j+1:=⟨f - 1,by omega⟩
 rw [e];show unF (SPu f) (tK [103,111] :: tN s :: tS [40] ::(tks (E9 (pes l))++[tS [41]]++r))=_;unfold unF;rw [if_neg (Qt _ (by decide)),if_neg (Qt _ (by decide)),if_pos Qd];show bnd (Kj (tN s :: _)) _=_;have e1:Kj (tN s :: tS [40] ::(tks (E9 (pes l))++[tS [41]]++r))=pok s (tS [40] ::(tks (E9 (pes l))++[tS [41]]++r)):=rfl;rw [e1,Hg,List.append_assoc];show J6 (SPu f) 11 s (tS [40] ::(tks (E9 (pes l))++tS [41] :: r))=_;rw [O1 (fun z hz r hr=>?_) hh r,hx];have hz1:=Ke z.Op
 have:=H6 hz
 have:=h z hz f (by unfold cond; rw [if_pos (by omega)]; omega) r hr
 rwa [H9 (by omega)] at this
theorem B3.up {x:Nd} (hx:lv x.Op≠3∧lv x.Op≠4) (hh:H5 x) (h:BD 5 SP.sm x):BD 3 SP.nt x:=fun f hc r hr=>by
 have e:tq x 3=tq x 5:=Mp (by omega);have hd:=Ix x;have hf:1≤f:=by unfold cond at hc; split at hc <;> omega
 obtain ⟨f,rfl⟩:∃ j,f=j+1:=⟨f - 1,by omega⟩
 have hc':cond f 5 x:=by
  unfold cond at hc ⊢;split at hc
  ·rw [if_pos (by omega)]; omega
  ·rw [if_neg (by omega)]; omega
 obtain ⟨t,u,e1,e2⟩:=hh;rw [e];show ntF (SPu f) (tq x 5++r)=_;unfold ntF;rw [if_neg (by rw [show tq x 5++r=t ::(u++r) by rw [e1]; rfl]; exact e2 _),h f hc' r (hr.mono (by omega)),Hg,hr.2.2.1 (by omega)]
theorem B3.not {x y:Nd} (hx:x=nd 13 [y]) (hy:BD 3 SP.nt y):BD 3 SP.nt x:=fun f hc r hr=>by
 have hk:x.Kids=[y]:=by rw [hx]
 have hdx:=Hp x;rw [hk] at hdx;simp only [ldp] at hdx;have ho:x.Op=13:=by rw [hx]
 have hl:lv x.Op=3:=by rw [ho]; rfl
 have e:tq x 3=tK [110,111,116] :: tq y 3:=by
  rw [H9 (by omega),hx];show tks (pe (nd 13 [y]))=_;rw [H3]; rfl
 have hc':16 * ndp x≤f+3:=by
  unfold cond at hc; rw [if_pos (by omega)] at hc; exact hc
 obtain ⟨f,rfl⟩:∃ j,f=j+1:=⟨f - 1,by omega⟩
 rw [e];show ntF (SPu f) (tK [110,111,116] ::(tq y 3++r))=_;unfold ntF;rw [if_pos Qd];show bnd ((SPu f).nt (tq y 3++r)) _=_;rw [hy f (by unfold cond; split <;> omega) r hr,Hg,hx]
theorem B3.cmp {x y z:Nd} {sg:Pc} (hb:bsg x.Op=some (sg,4)) (hx:x=nd x.Op [y,z]) (hh:H5 y) (hy:BD 5 SP.sm y) (hz:BD 5 SP.sm z):BD 3 SP.nt x:=fun f hc r hr=>by
 obtain ⟨t,ht,hs,_⟩:=Md hb;have hl:lv x.Op=4:=by unfold lv; rw [hb]
 have hk:x.Kids=[y,z]:=by rw [hx]
 have hdx:=Hp x;rw [hk] at hdx;simp only [ldp] at hdx;have hc':16 * ndp x≤f+3:=by
  unfold cond at hc; rw [if_pos (by omega)] at hc; exact hc
 have e:tq x 3=tq y 5++t :: tq z 5:=by
  rw [H9 (by omega)];unfold te;rw [H3];unfold PX;rw [hb,hk,Lx,L1];dsimp only;rw [if_pos rfl,Hu];show _++tks (sg :: qB :: _)=_;unfold tks;rw [List.filterMap_cons_some ht]; rfl
 obtain ⟨f,rfl⟩:∃ j,f=j+1:=⟨f - 1,by omega⟩
 obtain ⟨t',u,e1,e2⟩:=hh;rw [e,List.append_assoc];show ntF (SPu f) (tq y 5++(t :: tq z 5++r))=_;unfold ntF;rw [if_neg (by rw [show tq y 5++(t :: tq z 5++r)=t' ::(u++(t :: tq z 5++r)) by rw [e1]; rfl]; exact e2 _),hy f (by unfold cond; split <;> omega) (t :: tq z 5++r) (hs _).1,Hg];rw [List.cons_append,show Hq K9 (t ::(tq z 5++r))=some x.Op from (hs _).2];show bnd ((SPu f).sm (tq z 5++r)) _=_;rw [hz f (by unfold cond; split <;> omega) r (hr.mono (by omega)),Hg,← hx]
structure Bu (x:Nd):Prop where
 b8:B8 x
 b7:B7 x
 c6:BC 6 SP.pd SP.un x
 c5:BC 5 SP.sm SP.pd x
 b3:BD 3 SP.nt x
 c2:BC 2 SP.cj SP.nt x
 c1:BC 1 SP.ex SP.cj x
 h5:H5 x
 he:Hde (te x)
theorem up6 {x:Nd} (hx:lv x.Op≠6) (h:B7 x):BC 6 SP.pd SP.un x:=BC.up (q':=7) (fun f ts=>rfl) rfl (by omega) hx h.2
theorem up5 {x:Nd} (hx:lv x.Op≠5) (h:BC 6 SP.pd SP.un x):BC 5 SP.sm SP.pd x:=BC.up (q':=6) (fun f ts=>rfl) rfl (by omega) hx (h.D (by omega))
theorem up2 {x:Nd} (hx:lv x.Op≠2) (h:BD 3 SP.nt x):BC 2 SP.cj SP.nt x:=BC.up (q':=3) (fun f ts=>rfl) rfl (by omega) hx h
theorem up1 {x:Nd} (hx:lv x.Op≠1) (h:BC 2 SP.cj SP.nt x):BC 1 SP.ex SP.cj x:=BC.up (q':=2) (fun f ts=>rfl) rfl (by omega) hx (h.D (by omega))
theorem Mn {x:Nd} (hx:lv x.Op≠5∧lv x.Op≠6) (h:B7 x):H5 x:=by
 have e:tq x 5=tq x 7:=Mp (by omega);unfold H5;rw [e]; exact h.1
theorem bu8 {x:Nd} (hl:lv x.Op=8) (h8:B8 x) (he:Hde (te x)):Bu x:=by
 have h7:=h8.up7 (by omega);have h6:=up6 (by omega) h7;have h5:=up5 (by omega) h6;have hh:=Mn (by omega) h7;have h3:=B3.up (by omega) hh (h5.D (by omega));have h2:=up2 (by omega) h3;exact ⟨h8,h7,h6,h5,h3,h2,up1 (by omega) h2,hh,he⟩
theorem bu7 {x:Nd} (hl:lv x.Op=7) (h7:B7 x) (he:Hde (te x)):Bu x:=by
 have h6:=up6 (by omega) h7;have h5:=up5 (by omega) h6;have hh:=Mn (by omega) h7;have h3:=B3.up (by omega) hh (h5.D (by omega));have h2:=up2 (by omega) h3;have h1:=up1 (by omega) h2;exact ⟨B8.paren (by omega) (h1.D (by omega)),h7,h6,h5,h3,h2,h1,hh,he⟩
theorem bu6 {x:Nd} (hl:lv x.Op=6) (h6:BC 6 SP.pd SP.un x) (hh:H5 x) (he:Hde (te x)):Bu x:=by
 have h5:=up5 (by omega) h6;have h3:=B3.up (by omega) hh (h5.D (by omega));have h2:=up2 (by omega) h3;have h1:=up1 (by omega) h2;have h8:=B8.paren (by omega) (h1.D (by omega));exact ⟨h8,h8.up7 (by omega),h6,h5,h3,h2,h1,hh,he⟩
theorem bu5 {x:Nd} (hl:lv x.Op=5) (h5:BC 5 SP.sm SP.pd x) (hh:H5 x) (he:Hde (te x)):Bu x:=by
 have h3:=B3.up (by omega) hh (h5.D (by omega));have h2:=up2 (by omega) h3;have h1:=up1 (by omega) h2;have h8:=B8.paren (by omega) (h1.D (by omega));have h7:=h8.up7 (by omega);exact ⟨h8,h7,up6 (by omega) h7,h5,h3,h2,h1,hh,he⟩
theorem bu3 {x:Nd} (hl:lv x.Op=3∨lv x.Op=4) (h3:BD 3 SP.nt x) (he:Hde (te x)):Bu x:=by
 have h2:=up2 (by omega) h3;have h1:=up1 (by omega) h2;have h8:=B8.paren (by omega) (h1.D (by omega));have h7:=h8.up7 (by omega);have h6:=up6 (by omega) h7;exact ⟨h8,h7,h6,up5 (by omega) h6,h3,h2,h1,Mn (by omega) h7,he⟩
theorem bu2 {x:Nd} (hl:lv x.Op=2) (h2:BC 2 SP.cj SP.nt x) (he:Hde (te x)):Bu x:=by
 have h1:=up1 (by omega) h2;have h8:=B8.paren (by omega) (h1.D (by omega));have h7:=h8.up7 (by omega);have h6:=up6 (by omega) h7;have h5:=up5 (by omega) h6;have hh:=Mn (by omega) h7;exact ⟨h8,h7,h6,h5,B3.up (by omega) hh (h5.D (by omega)),h2,h1,hh,he⟩
theorem bu1 {x:Nd} (hl:lv x.Op=1) (h1:BC 1 SP.ex SP.cj x) (he:Hde (te x)):Bu x:=by
 have h8:=B8.paren (by omega) (h1.D (by omega));have h7:=h8.up7 (by omega);have h6:=up6 (by omega) h7;have h5:=up5 (by omega) h6;have hh:=Mn (by omega) h7;have h3:=B3.up (by omega) hh (h5.D (by omega));exact ⟨h8,h7,h6,h5,h3,up2 (by omega) h3,h1,hh,he⟩
theorem Ii {x:Nd} {op:Int} {s tx:Ge} {it:Int} {l:List Nd} (h0:x.Op=op) (h1:x.Name=s) (h2:x.Int=it) (h3:x.Text=tx) (h4:x.Kids=l):x=⟨op,s,it,tx,l⟩:=by
 cases x; cases h0; cases h1; cases h2; cases h3; cases h4; rfl
theorem Jy {l:List Nd} (h:(l.length:Int)=0):l=[]:=List.eq_nil_of_length_eq_zero (by omega)
theorem Si (n:Int):Bu ⟨4,[],n,[],[]⟩:=bu8 rfl (B8.prim rfl (Rf ⟨by simp,by simp⟩ _) fun f hf rest hr=>by
 obtain ⟨f,rfl⟩:∃ j,f=j+1:=⟨f - 1,by have:=Ix ⟨4,[],n,[],[]⟩; omega⟩
 rfl) (Mr (t:=⟨3,0,[],n⟩) ⟨by simp,by simp⟩ [])
theorem R1 (s:Ge):Bu ⟨5,[],0,s,[]⟩:=bu8 rfl (B8.prim rfl (Rf ⟨by simp,by simp⟩ _) fun f hf rest hr=>by
 obtain ⟨f,rfl⟩:∃ j,f=j+1:=⟨f - 1,by have:=Ix ⟨5,[],0,s,[]⟩; omega⟩
 rfl) (Mr (t:=⟨4,0,s,0⟩) ⟨by simp,by simp⟩ [])
theorem Rv (s:Ge):Bu ⟨6,s,0,[],[]⟩:=bu8 rfl (B8.prim rfl (Rf ⟨by simp,by simp⟩ _) fun f hf rest hr=>by
 obtain ⟨f,rfl⟩:∃ j,f=j+1:=⟨f - 1,by have:=Ix ⟨6,s,0,[],[]⟩; omega⟩
 show pmF (SPu f) (tN s :: rest)=_;unfold pmF;show (if isS [40] rest=true then _ else _)=_;rw [if_neg hr]) (Mr (t:=tN s) ⟨by simp,by simp⟩ [])
theorem N5:∀ (m:Nat) (x:Nd),nsz x≤m→IsE x→Bu x
 | 0,x,h,_=>by have:=Gx x; omega
 | m+1,x,h,hE=>by
  rw [Gg] at h;have kid:∀ z∈x.Kids,IsE z→Bu z:=fun z hz hh=>N5 m z (by have:=D7 hz; omega) hh
  have hdx:=Hp x;rw [Jm] at hE;unfold EX at hE;have elem:∀ (l:List Nd),l=x.Kids→(∀ z∈x.Kids,IsE z)→∀ f,16 * ldp x.Kids≤f+1→∀ z∈l,∀ r,St 1 r→(SPu f).ex (te z++r)=some (.ok (z,r)):=fun l hl hh f hf z hz r hr=>by
   subst hl;have hz1:=Ke z.Op
   have:=H6 hz
   have:=(kid z hz (hh z hz)).c1.D (by omega) f (by unfold cond; rw [if_pos (by omega)]; omega) r hr
   rwa [H9 (by omega)] at this
  rcases hE with ⟨ho,h1,h2,h3,h4⟩ |⟨ho,h1,h2,h3,h4⟩ |⟨ho,h1,h2,h3,h4⟩ |⟨ho,h1,h2,h3,h4⟩ |⟨ho,h1,h2,h3,h4⟩ |⟨ho,h1,h2,h3,h4⟩ |⟨ho,h1,h2,h3,h4⟩ |⟨ho,h1,h2,h3,h4,h5⟩ |⟨ho,h1,h2,h3,h4,h5⟩ |⟨ho,h1,h2,h3,h4,h5⟩
  ·have hk:=Jy h4;rcases ho with ho | ho | ho
   ·obtain rfl:=Ii ho h1 h2 h3 hk;exact bu8 rfl (B8.prim rfl (Th (by decide) _) fun f hf rest hr=>by
     obtain ⟨f,rfl⟩:∃ j,f=j+1:=⟨f - 1,by omega⟩
     rfl) (Li (by decide) _)
   ·obtain rfl:=Ii ho h1 h2 h3 hk;exact bu8 rfl (B8.prim rfl (Th (by decide) _) fun f hf rest hr=>by
     obtain ⟨f,rfl⟩:∃ j,f=j+1:=⟨f - 1,by omega⟩
     rfl) (Li (by decide) _)
   ·obtain rfl:=Ii ho h1 h2 h3 hk;exact bu8 rfl (B8.prim rfl (Th (by decide) _) fun f hf rest hr=>by
     obtain ⟨f,rfl⟩:∃ j,f=j+1:=⟨f - 1,by omega⟩
     rfl) (Li (by decide) _)
  ·rw [Ii ho h1 rfl h2 (Jy h4)]; exact Si _
  ·rw [Ii ho h1 h2 rfl (Jy h4)]; exact R1 _
  ·rw [Ii ho rfl h2 h3 (Jy h4)]; exact Rv _
  ·rw [F8] at h4;obtain hx:=Ii ho h1 h2 h3 rfl;have hl:lv x.Op=8:=by rw [ho]; rfl
   have e:te x=tS [91] ::(tks (E9 (pes x.Kids))++[tS [93]]):=by
    unfold te;rw [H3,ho];show tS [91] :: tks (E9 (pes x.Kids)++[qS [93]])=_;rw [Hu]; rfl
   exact bu8 hl (B8.prim hl (by rw [e]; exact Rp (by decide) _) fun f hf rest hr=>by
    obtain ⟨f,rfl⟩:∃ j,f=j+1:=⟨f - 1,by omega⟩
    rw [e,List.cons_append,List.append_assoc];show pmF (SPu f) (tS [91] ::(tks (E9 (pes x.Kids))++tS [93] :: rest))=_;rw [Mg (.inr (.inl rfl)),if_pos rfl,P2 (by decide) (elem _ rfl h4 f (by omega)) (fun z hz=>(kid z hz (h4 z hz)).he),Hg];show pok (⟨7,[],0,[],x.Kids⟩:Nd) rest=_;rw [← hx]) (by rw [e]; exact Om (by decide) _)
  ·rw [Jp] at h4;obtain hx:=Ii ho h1 h2 h3 rfl;have hl:lv x.Op=8:=by rw [ho]; rfl
   have e:te x=tS [123] ::(tks (E9 (pes x.Kids))++[tS [125]]):=by
    unfold te;rw [H3,ho];show tS [123] :: tks (E9 (pes x.Kids)++[qS [125]])=_;rw [Hu]; rfl
   have pair:∀ z∈x.Kids,∃ w tx,z=⟨9,[],0,tx,[w]⟩∧Bu w∧te z=⟨4,0,tx,0⟩ :: tS [58] :: te w∧1+ndp w≤ldp x.Kids:=fun z hz=>by
    have hp:=h4 z hz;rw [Jr] at hp;obtain ⟨p0,p1,p2,p3,p4,p5⟩:=hp;obtain ⟨w,hw⟩:=Gi p4;rw [hw,F8] at p5;have hzz:=Ii p0 p1 p2 (rfl:z.Text=z.Text) hw;have hlz:=D7 hz;have hwz:nsz w+1=nsz z:=by rw [Gg z,hw,J4]
    have hdz:=H6 hz;rw [Hp z,hw] at hdz;simp only [ldp] at hdz;refine ⟨w,z.Text,hzz,N5 m w (by omega) (p5 w (.head _)),?_,by omega⟩;rw [hzz];show tks (pe ⟨9,[],0,z.Text,[w]⟩)=_;rw [H3]; rfl
   exact bu8 hl (B8.prim hl (by rw [e]; exact Rp (by decide) _) fun f hf rest hr=>by
    obtain ⟨f,rfl⟩:∃ j,f=j+2:=⟨f - 2,by omega⟩
    rw [e,List.cons_append,List.append_assoc];show pmF (SPu (f+1)) (tS [123] ::(tks (E9 (pes x.Kids))++tS [125] :: rest))=_;rw [Mg (.inr (.inr rfl)),if_neg (by decide),if_pos rfl,P2 (by decide) (fun z hz r hr=>?_) (fun z hz=>?_),Hg]
    ·show pok (⟨8,[],0,[],x.Kids⟩:Nd) rest=_;rw [← hx]
    ·obtain ⟨w,tx,rfl,hw,e1,hd⟩:=pair z hz;rw [e1];show prF (SPu f) (⟨4,0,tx,0⟩ :: tS [58] ::(te w++r))=_;unfold prF;have e2:Jx 4 (⟨4,0,tx,0⟩ :: tS [58] ::(te w++r))=pok ⟨4,0,tx,0⟩ (tS [58] ::(te w++r)):=rfl;rw [e2,Hg,Kd,Hg];have hw1:=Ke w.Op
     have:=hw.c1.D (by omega) f (by unfold cond; rw [if_pos (by omega)]; omega) r hr
     rw [H9 (by omega)] at this;rw [this,Hg]
    ·obtain ⟨w,tx,rfl,hw,e1,hd⟩:=pair z hz;rw [e1];exact Mr ⟨by simp,by simp⟩ _) (by rw [e]; exact Om (by decide) _)
  ·rw [F8] at h4;rcases ho with ho | ho
   ·obtain hx:=Ii ho rfl h2 h3 rfl;have hl:lv x.Op=8:=by rw [ho]; rfl
    have e:te x=tN x.Name :: tS [40] ::(tks (E9 (pes x.Kids))++[tS [41]]):=by
     unfold te;rw [H3,ho];show tN x.Name :: tS [40] :: tks (E9 (pes x.Kids)++[qS [41]])=_;rw [Hu]; rfl
    exact bu8 hl (B8.prim hl (by rw [e]; exact Rf ⟨by simp,by simp⟩ _) fun f hf rest hr=>by
     obtain ⟨f,rfl⟩:∃ j,f=j+1:=⟨f - 1,by omega⟩
     rw [e,List.cons_append,List.cons_append,List.append_assoc];show pmF (SPu f) (tN x.Name :: tS [40] ::(tks (E9 (pes x.Kids))++tS [41] :: rest))=_;unfold pmF;show (if isS [40] (tS [40] ::(tks (E9 (pes x.Kids))++tS [41] :: rest))=true then J6 (SPu f) 10 x.Name (tS [40] ::(tks (E9 (pes x.Kids))++tS [41] :: rest)) else _)=_;rw [if_pos Jv,O1 (elem _ rfl h4 f (by omega)) (fun z hz=>(kid z hz (h4 z hz)).he),← hx]) (by rw [e]; exact Mr ⟨by simp,by simp⟩ _)
   ·obtain hx:=Ii ho rfl h2 h3 rfl;have hl:lv x.Op=7:=by rw [ho]; rfl
    refine bu7 hl (B7.go hx (fun z hz=>(kid z hz (h4 z hz)).c1.D (by omega)) fun z hz=>(kid z hz (h4 z hz)).he) ?_;unfold te;rw [H3,ho];exact Li (by decide) _
  ·obtain ⟨y,hy⟩:=Gi h4;rw [F8] at h5;have by':=kid y (by rw [hy]; exact .head _) (h5 y (by rw [hy]; exact .head _))
   rcases ho with ho | ho | ho
   ·obtain hx:=Ii ho h1 h2 h3 hy;refine bu7 (by rw [ho]; rfl) (B7.await hx by'.b7) ?_;unfold te;rw [hx,H3]; exact Li (by decide) _
   ·obtain hx:=Ii ho h1 h2 h3 hy;refine bu3 (.inl (by rw [ho]; rfl)) (B3.not hx by'.b3) ?_;unfold te;rw [hx,H3]; exact Li (by decide) _
   ·obtain hx:=Ii ho h1 h2 h3 hy;refine bu7 (by rw [ho]; rfl) (B7.neg hx by'.b7) ?_;unfold te;rw [hx,H3]; exact Om (by decide) _
  ·obtain ⟨y,hy⟩:=Gi h4;rw [F8] at h5;have by':=kid y (by rw [hy]; exact .head _) (h5 y (by rw [hy]; exact .head _))
   obtain hx:=Ii ho rfl h2 h3 hy;refine bu8 (by rw [ho]; rfl) (B8.field hx by'.b8) ?_;unfold te;rw [hx,H3];show Hde (tks (opd (y.Op,pe y) 8++_));rw [Hu];exact (Nw by'.he 8).app
  ·obtain ⟨y,z,hy⟩:=Iq h4;rw [F8] at h5;have by':=kid y (by rw [hy]; exact .head _) (h5 y (by rw [hy]; exact .head _))
   have bz:=kid z (by rw [hy]; exact .tail _ (.head _)) (h5 z (by rw [hy]; exact .tail _ (.head _)));by_cases h28:x.Op=28
   ·obtain hx:=Ii h28 h1 h2 h3 hy;refine bu8 (by rw [h28]; rfl) (B8.index hx by'.b8 (bz.c1.D (by omega))) ?_;unfold te;rw [hx,H3];show Hde (tks (opd (y.Op,pe y) 8++_));rw [Hu];exact (Nw by'.he 8).app
   ·obtain ⟨sg,v,hb⟩:=Ms (op:=x.Op) (by omega);have hx:x=nd x.Op [y,z]:=Ii rfl h1 h2 h3 hy;have hl:lv x.Op=v:=by unfold lv; rw [hb]
    obtain ⟨t,ht,hs,hv⟩:=Md hb;have ete:te x=tq y (if v=4 then 5 else v)++t :: tq z (v+1):=by
     unfold te;rw [H3];unfold PX;rw [hb,hy,Lx,L1];dsimp only;rw [Hu];show _++tks (sg :: qB :: _)=_;unfold tks;rw [List.filterMap_cons_some ht]; rfl
    have he:Hde (te x):=by rw [ete]; exact (Nw by'.he _).app
    rcases hv with rfl | rfl | rfl | rfl | rfl
    ·exact bu1 hl (BC.own (by omega) hb hx by'.c1 (bz.c2.D (by omega))) he
    ·exact bu2 hl (BC.own (by omega) hb hx by'.c2 bz.b3) he
    ·exact bu3 (.inr hl) (B3.cmp hb hx by'.h5 (by'.c5.D (by omega)) (bz.c5.D (by omega))) he
    ·refine bu5 hl (BC.own (by omega) hb hx by'.c5 (bz.c6.D (by omega))) ?_ he;unfold H5;rw [H9 (by omega),ete];exact by'.h5.app
    ·refine bu6 hl (BC.own (by omega) hb hx by'.c6 bz.b7.2) ?_ he;unfold H5;rw [H9 (by omega),ete];exact by'.h5.six.app
end Go.Proofs.YtdgejpgbppfhmaaGreatDoor
