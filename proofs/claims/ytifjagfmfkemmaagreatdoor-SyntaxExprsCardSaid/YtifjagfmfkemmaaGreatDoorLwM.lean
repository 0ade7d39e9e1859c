import Derived.Test.YtifjagfmfkemmaaGreatDoorLwL
set_option linter.unusedVariables false
set_option linter.unusedSimpArgs false
set_option maxHeartbeats 4000000
namespace Go.Proofs.YtifjagfmfkemmaaGreatDoor
open Eng Go
theorem L3 {s s':List UInt8} (hn:s≠s') {ts:List Tk} (h:isS s ts=true):¬ isS s' ts=true:=by
 cases ts with
 | nil=>simp [isS]
 | cons t r=>simp [isS] at h ⊢; intro _ e; exact hn (h.2.symm.trans e)
def Mg (e:List UInt8) (elem:List Tk→Rs Nd) (k:Nat) (acc:List Nd) (ts:List Tk):Rs (List Nd):=if isS e ts=true then pok acc ts.tail else bnd (Fa [44] ts) fun _ ts=>Gf e elem k acc ts
theorem Qf {K:Nat} {l:List Tk} {e:List UInt8} (he:e≠[44]) {elem:List Tk→Rs Nd} {q:Ab→Option (Int ⊕ (Nd×Ab))}
  {L:Nat→List Tk→Int→List Nd→Option (Q9 ((List Nd×Ab) ⊕ Int) (List Tk×Int×List Nd))}
  (hL:∀ k l i acc,L (k+1) l i acc=(Option.bind (Ao K [44] (⟨l,i⟩:Ab)) (fun (a3_0,a3_1)=>(if a3_0=true then (Option.bind (q a3_1) (fun a4=>match a4 with |(Sum.inl a4)=>some (Q9.done (Sum.inr a4)) |(Sum.inr (a4_0,a4_1))=>(if (acc.length+([(⟨a4_0.Op,a4_0.Name,a4_0.Int,a4_0.Text,a4_0.Kids⟩:Aa)]:List Aa).length) * 72≤140737488355328 then L k a4_1.l a4_1.i (acc++([(⟨a4_0.Op,a4_0.Name,a4_0.Int,a4_0.Text,a4_0.Kids⟩:Aa)]:List Aa)) else none))) else some (Q9.go (a3_1.l,a3_1.i,acc))))))
  (hs:Snd 1 elem) (hq:Gg l elem q):∀ (k' k:Nat) (acc:List Nd) (ts:List Tk),k+1≤k'→acc.length+ts.length≤9000010→Sx l ts→∀ r,Mg e elem k acc ts=some r →
   obind (L k' l (pos l ts) acc) (fun r=>r) (fun (xh0_0_15,xh0_1_15,x23000)=>(Option.bind (Aq K e (⟨xh0_0_15,xh0_1_15⟩:Ab)) (fun a5=>match a5 with |(Sum.inl a5)=>some (Sum.inl (x23000,a5)) |(Sum.inr a5)=>some (Sum.inr a5))))=some (cL l r):=by
 intro k'
 induction k' with
 | zero=>intro k acc ts hk; omega
 | succ k' ih =>
  intro k acc ts hk hn h r hr
  rw [hL]
  unfold Mg at hr
  by_cases h1:isS e ts=true
  ·rw [if_pos h1] at hr
   have e1:=Hg (K:=K) h (L3 he h1)
   change Ao K _ ⟨l,pos l ts⟩=_ at e1
   rw [e1]
   cases hr
   show Option.bind (Aq K e (st l ts)) _=_
   rw [Ij h h1]; rfl
  ·rw [if_neg h1] at hr
   by_cases h2:isS [44] ts=true
   ·have e1:=Hm (K:=K) h h2
    change Ao K _ ⟨l,pos l ts⟩=_ at e1
    rw [e1]
    unfold Fa at hr
    rw [if_pos h2] at hr
    replace hr:Gf e elem k acc ts.tail=some r:=hr
    cases k with
    | zero=>cases hr
    | succ k =>
     replace hr:bnd (elem ts.tail) (fun a ts=>Mg e elem k (acc++[a]) ts)=some r:=hr
     have h3:=h.is h2
     show obind (Option.bind (q (st l ts.tail)) _) _ _=_
     cases hb:elem ts.tail with
     | none=>rw [hb] at hr; cases hr
     | some x =>
      rw [hq _ h3 _ hb,Option.bind_some]
      rw [hb] at hr
      have hx:=hs _ h3.gd _ hb
      match x,hr,hx with
      | .error e,hr,hx=>cases hr; rfl
      | .ok (a,ts'),hr,hx =>
       replace hx:Eat 1 _ ts':=hx
       have:=hx.2.1; have:=(Eat.isS h.gd h2).2.1; have:=h.len
       simp only [cR,Ff]
       rw [if_pos (by simp; omega)]
       exact ih k (acc++[a]) ts' (by omega) (by simp; omega) (h3.eat hx) r hr
   ·have e1:=Hg (K:=K) h h2
    change Ao K _ ⟨l,pos l ts⟩=_ at e1
    rw [e1]
    unfold Fa at hr
    rw [if_neg h2] at hr
    cases hr
    show Option.bind (Aq K e (st l ts)) _=_
    rw [Io h h1]; rfl
theorem Kl {K:Nat} (hK:9000010≤K∨True) {l:List Tk} (hKl:l.length+2≤K) {e:List UInt8} (he:e≠[44]) {elem:List Tk→Rs Nd} {q:Ab→Option (Int ⊕ (Nd×Ab))}
  {L:Nat→List Tk→Int→List Nd→Option (Q9 ((List Nd×Ab) ⊕ Int) (List Tk×Int×List Nd))} {Q:Ab→Option ((List Nd×Ab) ⊕ Int)}
  (hL:∀ k l i acc,L (k+1) l i acc=(Option.bind (Ao K [44] (⟨l,i⟩:Ab)) (fun (a3_0,a3_1)=>(if a3_0=true then (Option.bind (q a3_1) (fun a4=>match a4 with |(Sum.inl a4)=>some (Q9.done (Sum.inr a4)) |(Sum.inr (a4_0,a4_1))=>(if (acc.length+([(⟨a4_0.Op,a4_0.Name,a4_0.Int,a4_0.Text,a4_0.Kids⟩:Aa)]:List Aa).length) * 72≤140737488355328 then L k a4_1.l a4_1.i (acc++([(⟨a4_0.Op,a4_0.Name,a4_0.Int,a4_0.Text,a4_0.Kids⟩:Aa)]:List Aa)) else none))) else some (Q9.go (a3_1.l,a3_1.i,acc))))))
  (hQ:∀ p1,Q p1=(Option.bind (Ao K e p1) (fun (a1_0,a1_1)=>(if a1_0=true then some (Sum.inl (([]:List Aa),a1_1)) else (Option.bind (q a1_1) (fun a2=>match a2 with |(Sum.inl a2)=>some (Sum.inr a2) |(Sum.inr (a2_0,a2_1))=>(obind (L K a2_1.l a2_1.i ([(⟨a2_0.Op,a2_0.Name,a2_0.Int,a2_0.Text,a2_0.Kids⟩:Aa)]:List Aa)) (fun r=>r) (fun (xh0_0_15,xh0_1_15,x23000)=>(Option.bind (Aq K e (⟨xh0_0_15,xh0_1_15⟩:Ab)) (fun a5=>match a5 with |(Sum.inl a5)=>some (Sum.inl (x23000,a5)) |(Sum.inr a5)=>some (Sum.inr a5)))))))))))
  (hs:Snd 1 elem) (hq:Gg l elem q):Ow l (Gb e elem) Q:=by
 intro ts h r hr
 rw [hQ]
 unfold Gb at hr
 by_cases h1:isS e ts=true
 ·rw [if_pos h1] at hr; cases hr
  rw [Hm h h1]; rfl
 ·rw [if_neg h1] at hr
  rw [Hg h h1]
  replace hr:bnd (elem ts) (fun a ts'=>Mg e elem ts.length ([]++[a]) ts')=some r:=hr
  show Option.bind (q (st l ts)) _=_
  cases hb:elem ts with
  | none=>rw [hb] at hr; cases hr
  | some x =>
   rw [hq _ h _ hb,Option.bind_some]
   rw [hb] at hr
   have hx:=hs _ h.gd _ hb
   match x,hr,hx with
   | .error e,hr,hx=>cases hr; rfl
   | .ok (a,ts'),hr,hx =>
    replace hx:Eat 1 _ ts':=hx
    have:=hx.2.1; have:=h.len; have:=h.hl
    simp only [cR,Ff]
    exact Qf he hL hs hq K _ [a] ts' (by omega) (by simp; omega) (h.eat hx) r hr
abbrev GP:=Ai
theorem P6 {K:Nat} {l:List Tk} {R:GP} {ex:List Tk→Rs Nd} (hs:Snd 1 ex) (hq:Gg l ex R.Ax):∀ (k k':Nat) (a:Nd) (ts:List Tk),k≤k'→Sx l ts→∀ r,Gk ex k a ts=some r →
  Be.l6 K R k' l (pos l ts) a.Op a.Name a.Int a.Text a.Kids=some (Q9.done (cR l r)):=by
 intro k
 induction k with
 | zero=>intro k' a ts hk h r hr; cases hr
 | succ k ih =>
  intro k' a ts hk h r hr
  obtain ⟨k',rfl⟩:∃ j,k'=j+1:=⟨k' - 1,by omega⟩
  rw [Be.l6]
  change Option.bind (Ao K _ (st l ts)) _=_
  unfold Gk at hr
  by_cases h1:isS [46] ts=true
  ·rw [if_pos h1] at hr
   rw [Hm h h1]
   have h3:=h.is h1
   show Option.bind (Ay K (st l ts.tail)) _=_
   cases hb:G5 ts.tail with
   | none=>rw [hb] at hr; cases hr
   | some x =>
    rw [I4 h3 hb,Option.bind_some]
    rw [hb] at hr
    have hx:=Gd _ h3.gd _ hb
    match x,hr,hx with
    | .error e,hr,hx=>cases hr; rfl
    | .ok (s,ts'),hr,hx =>
     simp only [cR,Ff]
     exact ih k' ⟨29,s,0,[],[a]⟩ ts' (by omega) (h3.eat hx) r hr
  ·rw [if_neg h1] at hr
   rw [Hg h h1]
   show Option.bind (Ao K _ (st l ts)) _=_
   by_cases h2:isS [91] ts=true
   ·rw [if_pos h2] at hr
    rw [Hm h h2]
    have h3:=h.is h2
    show Option.bind (R.Ax (st l ts.tail)) _=_
    cases hb:ex ts.tail with
    | none=>rw [hb] at hr; cases hr
    | some x =>
     rw [hq _ h3 _ hb,Option.bind_some]
     rw [hb] at hr
     have hx:=hs _ h3.gd _ hb
     match x,hr,hx with
     | .error e,hr,hx=>cases hr; rfl
     | .ok (b,ts'),hr,hx =>
      have h4:=h3.eat hx
      simp only [cR,Ff,Ct,Option.bind_some]
      replace hr:bnd (Fa [93] ts') (fun _ ts=>Gk ex k (nd 28 [a,b]) ts)=some r:=hr
      unfold Fa at hr
      by_cases h5:isS [93] ts'=true
      ·rw [if_pos h5] at hr
       rw [Ij h4 h5]
       exact ih k' (nd 28 [a,b]) ts'.tail (by omega) (h4.is h5) r hr
      ·rw [if_neg h5] at hr
       rw [Io h4 h5]; cases hr; rfl
   ·rw [if_neg h2] at hr
    rw [Hg h h2]
    cases hr
    simp only [Ff]; rfl
structure PK (K:Nat) (l:List Tk) (S:SP) (R:GP):Prop where
 ex:Gg l S.ex R.Ax
 cj:Gg l S.cj R.Cf
 nt:Gg l S.nt R.Bm
 sm:Gg l S.sm R.B4
 pd:Gg l S.pd R.Bo
 un:Gg l S.un R.Bb
 pm:Ow l S.pm R.Bv
 pr:Gg l S.pr R.B6
theorem K0 {l:List Tk} (r:Except (List Tk) (Nd×List Tk)):(match cR l r with |(Sum.inl a1)=>some (Sum.inl a1) |(Sum.inr (a1_0,a1_1))=>some (Sum.inr (a1_0,a1_1)):Option (Int ⊕ (Nd×Ab)))=some (cR l r):=by
 match r with
 | .error e=>rfl
 | .ok (a,ts)=>rfl
theorem H3 {K:Nat} (hK:1000≤K) {l:List Tk} (hKl:l.length+2≤K) {sub:List Tk→Rs Nd} {ops:Ops} (ho:ops.length < 1000) {q Q:Ab→Option (Int ⊕ (Nd×Ab))}
  {L:Nat→List Tk→Int→Int→List UInt8→Int→List UInt8→List Nd→Option (Q9 (Int ⊕ (Nd×Ab)) Unit)}
  (hL:∀ k l i b0 b1 b2 b3 b4,L (k+1) l i b0 b1 b2 b3 b4=(Option.bind (B5 K (ops.map (·.1)) (ops.map (·.2)) (⟨l,i⟩:Ab)) (fun (a2_0,a2_1,a2_2)=>(if a2_1=true then (Option.bind (q a2_2) (fun a3=>match a3 with |(Sum.inl a3)=>some (Q9.done (Sum.inl a3)) |(Sum.inr (a3_0,a3_1))=>(Option.bind (Ct K a2_0 ([(⟨b0,b1,b2,b3,b4⟩:Aa),(⟨a3_0.Op,a3_0.Name,a3_0.Int,a3_0.Text,a3_0.Kids⟩:Aa)]:List Aa)) (fun a4=>L k a3_1.l a3_1.i a4.Op a4.Name a4.Int a4.Text a4.Kids)))) else some (Q9.done (Sum.inr ((⟨b0,b1,b2,b3,b4⟩:Aa),a2_2)))))))
  (hQ:∀ p,Q p=(Option.bind (Option.bind (q p) (fun a1=>match a1 with |(Sum.inl a1)=>some (Sum.inl a1) |(Sum.inr (a1_0,a1_1))=>(obind (L K a1_1.l a1_1.i a1_0.Op a1_0.Name a1_0.Int a1_0.Text a1_0.Kids) (fun r=>r) (fun _=>none)))) (fun a1=>match a1 with |(Sum.inl a1)=>some (Sum.inl a1) |(Sum.inr (a1_0,a1_1))=>some (Sum.inr (a1_0,a1_1)))))
  (hs:Snd 1 sub) (hq:Gg l sub q):Gg l (Hv sub ops) Q:=by
 intro ts h r hr
 rw [hQ]
 unfold Hv at hr
 cases hb:sub ts with
 | none=>rw [hb] at hr; cases hr
 | some x =>
  rw [hq _ h _ hb]
  rw [hb] at hr
  have hx:=hs _ h.gd _ hb
  match x,hr,hx with
  | .error e,hr,hx=>cases hr; rfl
  | .ok (a,ts'),hr,hx =>
   have h2:=h.eat hx
   have:=h2.len
   replace hr:Ge sub ops (ts'.length+1) a ts'=some r:=hr
   have:=Pd hK ho hL hs hq (ts'.length+1) K a ts' (by omega) h2 r hr
   show Option.bind (obind (L K l (pos l ts') a.Op a.Name a.Int a.Text a.Kids) _ _) _=_
   rw [this]
   exact K0 r
end Go.Proofs.YtifjagfmfkemmaaGreatDoor
