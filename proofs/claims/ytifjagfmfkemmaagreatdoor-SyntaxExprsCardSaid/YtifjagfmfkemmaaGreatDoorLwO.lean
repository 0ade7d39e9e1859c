import Derived.Test.YtifjagfmfkemmaaGreatDoorLwN
set_option linter.unusedVariables false
set_option linter.unusedSimpArgs false
set_option maxHeartbeats 4000000
namespace Go.Proofs.YtifjagfmfkemmaaGreatDoor
open Eng Go
abbrev RP:=Ad
abbrev GR:=Ag
abbrev rst (l ts:List Tk) (b:Bool):RP:=⟨l,pos l ts,b⟩
def Gp {α:Type} (l:List Tk) (o:Option (α×RP)):Except (List Tk) (α×List Tk)→Prop
 | .ok (a,ts)=>o=some (a,rst l ts false)
 | .error ts=>∃ a,o=some (a,rst l ts true)
def F8 {α:Type} (l:List Tk) (p:List Tk→Rs α) (q:RP→Option (α×RP)):Prop:=∀ ts,Sx l ts→∀ r,p ts=some r→Gp l (q (rst l ts false)) r
def Gm {α:Type} (l:List Tk) (q:RP→Option (α×RP)):Prop:=∀ ts,Sx l ts→∃ a,q (rst l ts true)=some (a,rst l ts true)
section
variable {K:Nat} {l:List Tk}
theorem Lz {ts:List Tk} (h:Sx l ts) (b:Bool) (s:List UInt8):B8 K (rst l ts b) s=some (!b && isS s ts):=by
 obtain ⟨t,r,rfl⟩:=h.gd.head
 have h1:=h.len; have h3:=h.get
 unfold B8
 dsimp only [rst,pos]
 rw [if_pos ⟨by omega,by omega⟩,Int.toNat_natCast,h3]
 cases b with
 | true=>rfl
 | false =>
  unfold isS
  by_cases h2:t.Kind=2
  ·simp [h2]
  ·by_cases h5:t.Kind=5
   ·simp [h5]
   ·simp [h2,h5]
theorem Is {ts:List Tk} (h:Sx l ts) {s:List UInt8} (hs:isS s ts=true):Ah K s (rst l ts false)=some (true,rst l ts.tail false):=by
 unfold Ah
 rw [Lz h,hs]
 show some (true,(⟨l,IntKind.i64.wrap (pos l ts+1),false⟩:RP))=_
 rw [h.succ]
theorem It {ts:List Tk} (h:Sx l ts) {s:List UInt8} (hs:¬ isS s ts=true):Ah K s (rst l ts false)=some (false,rst l ts false):=by
 unfold Ah
 rw [Lz h]
 simp [hs]
theorem Gc {ts:List Tk} (h:Sx l ts) (s:List UInt8):Ah K s (rst l ts true)=some (false,rst l ts true):=by
 unfold Ah
 rw [Lz h]; rfl
theorem Jl {ts:List Tk} (h:Sx l ts) {s:List UInt8} (hs:isS s ts=true):Ar K s (rst l ts false)=some (rst l ts.tail false):=by
 unfold Ar
 rw [Is h hs]; rfl
theorem Jd {ts:List Tk} (h:Sx l ts) {s:List UInt8} (hs:¬ isS s ts=true):Ar K s (rst l ts false)=some (rst l ts true):=by
 unfold Ar
 rw [It h hs]; rfl
theorem Ie {ts:List Tk} (h:Sx l ts) (s:List UInt8):Ar K s (rst l ts true)=some (rst l ts true):=by
 unfold Ar
 rw [Gc h s]; rfl
theorem M0 {t:Tk} {r:List Tk} (h:Sx l (t :: r)):(0:Int)≤pos l (t :: r)∧pos l (t :: r) <(l.length:Int)∧l.getD (Int.toNat (pos l (t :: r))) Dr=t:=by
 have h1:=h.len; have h3:=h.get
 exact ⟨by simp only [pos]; omega,by simp only [pos]; omega,by simp only [pos]; rw [Int.toNat_natCast,h3]⟩
theorem Jb {t:Tk} {r:List Tk} (h:Sx l (t :: r)) (k:Int):A7 K (rst l (t :: r) false) k=some (decide (t.Kind=k)):=by
 obtain ⟨h1,h2,h3⟩:=M0 h
 unfold A7
 dsimp only [rst]
 rw [if_neg (by simp),if_pos ⟨h1,h2⟩,h3]
theorem Oz {ts:List Tk} (k:Int):A7 K (rst l ts true) k=some false:=by
 unfold A7
 exact if_pos rfl
theorem Jo {ts:List Tk} (h:Sx l ts) {r:Except (List Tk) (List UInt8×List Tk)} (hr:G5 ts=some r):Gp l (Bd K (rst l ts false)) r:=by
 obtain ⟨t,u,rfl⟩:=h.gd.head
 obtain ⟨h1,h2,h3⟩:=M0 h
 unfold Bd
 rw [Jb h,Option.bind_some]
 simp only [G5,F6] at hr
 have hp:IntKind.i64.wrap (IntKind.i64.wrap (pos l (t :: u)+1) - 1)=pos l (t :: u):=by
  have:=h.hl
  rw [w64 (x:=pos l (t :: u)+1) (by omega) (by omega),w64 (by omega) (by omega)]; omega
 by_cases hk:t.Kind=1
 ·rw [if_pos hk] at hr; cases hr
  rw [if_pos (by simpa using hk)]
  dsimp only [rst]
  rw [hp,if_pos ⟨h1,h2⟩,h3,h.succ]; rfl
 ·rw [if_neg hk] at hr; cases hr
  rw [if_neg (by simpa using hk)]
  exact ⟨_,rfl⟩
theorem G0 (op:Int) (a:Nd):Ca K op a=some (nd op [a]):=by unfold Ca; rw [Ff]
theorem Jh (op:Int) (a b:Nd):A3 K op a b=some (nd op [a,b]):=by unfold A3; rw [Ff,Ff]
theorem Qa (R:GR):Gm l (Ba.F K R):=fun ts h=>by
 unfold Ba.F
 exact ⟨_,if_pos rfl⟩
theorem Jr {R:GR} {ts:List Tk} (h:Sx l ts) (k:Nat) (a:Nd):Av.l34 K R (k+1) l (pos l ts) true a.Op a.Name a.Int a.Text a.Kids=some (Q9.done (a,rst l ts true)):=by
 rw [Av.l34]
 show Option.bind (Ah K [46] (rst l ts true)) _=_
 rw [Gc h]
 show Option.bind (Ah K [91] (rst l ts true)) _=_
 rw [Gc h]
 simp only [Ff]; rfl
theorem Qb {R:GR} (hK:1≤K) (hR:Gm l R.Ba):Gm l (Av.F K R):=fun ts h=>by
 unfold Av.F
 obtain ⟨a,e⟩:=hR ts h
 obtain ⟨k,rfl⟩:∃ k,K=k+1:=⟨K - 1,by omega⟩
 rw [Gc h]
 show ∃ a,Option.bind (Ah _ [97,119,97,105,116] (rst l ts true)) _=_
 rw [Gc h]
 show ∃ a,Option.bind (Ah _ [103,111] (rst l ts true)) _=_
 rw [Gc h]
 show ∃ a,Option.bind (R.Ba (rst l ts true)) _=_
 rw [e]
 refine ⟨a,?_⟩
 show obind (Av.l34 _ R (k+1) l (pos l ts) true a.Op a.Name a.Int a.Text a.Kids) _ _=_
 rw [Jr h]; rfl
theorem Pg {R:GR} {ts:List Tk} (h:Sx l ts) (k:Nat) (a:Nd):A2.l6 K R (k+1) l (pos l ts) true a.Op a.Name a.Int a.Text a.Kids=some (Q9.done (a,rst l ts true)):=by
 rw [A2.l6]
 show Option.bind (Ah K [42] (rst l ts true)) _=_
 rw [Gc h]
 show Option.bind (Ah K [47] (rst l ts true)) _=_
 rw [Gc h]
 show Option.bind (Ah K [37] (rst l ts true)) _=_
 rw [Gc h]
 simp only [Ff]; rfl
theorem P5 {R:GR} (hK:1≤K) (hR:Gm l R.Av):Gm l (A2.F K R):=fun ts h=>by
 unfold A2.F
 obtain ⟨a,e⟩:=hR ts h
 obtain ⟨k,rfl⟩:∃ k,K=k+1:=⟨K - 1,by omega⟩
 rw [e]
 refine ⟨a,?_⟩
 show obind (A2.l6 _ R (k+1) l (pos l ts) true a.Op a.Name a.Int a.Text a.Kids) _ _=_
 rw [Pg h]; rfl
theorem Pi {R:GR} {ts:List Tk} (h:Sx l ts) (k:Nat) (a:Nd):A1.l6 K R (k+1) l (pos l ts) true a.Op a.Name a.Int a.Text a.Kids=some (Q9.done (a,rst l ts true)):=by
 rw [A1.l6]
 show Option.bind (Ah K [43] (rst l ts true)) _=_
 rw [Gc h]
 show Option.bind (Ah K [45] (rst l ts true)) _=_
 rw [Gc h]
 simp only [Ff]; rfl
theorem Ql {R:GR} (hK:1≤K) (hR:Gm l R.A2):Gm l (A1.F K R):=fun ts h=>by
 unfold A1.F
 obtain ⟨a,e⟩:=hR ts h
 obtain ⟨k,rfl⟩:∃ k,K=k+1:=⟨K - 1,by omega⟩
 rw [e]
 refine ⟨a,?_⟩
 show obind (A1.l6 _ R (k+1) l (pos l ts) true a.Op a.Name a.Int a.Text a.Kids) _ _=_
 rw [Pi h]; rfl
theorem J9 {R:GR} {ts:List Tk} (h:Sx l ts) (a:Nd):∀ (k i:Nat),6 < i+k→i≤6→Aw.l21 K R a k i l (pos l ts) true=some (Q9.go (l,pos l ts,true))
 | 0,i,h1,h2=>by omega
 | k+1,i,h1,h2=>by
  rw [Aw.l21]
  by_cases hi:i < 6
  ·rw [if_pos (by simp; omega),if_pos (by simp; omega)]
   show Option.bind (Ah K _ (rst l ts true)) _=_
   rw [Gc h]
   show Aw.l21 K R a k (IntKind.i64.wrap ((i:Int)+1)) l (pos l ts) true=_
   rw [w64 (by omega) (by omega)]
   exact J9 h a k (i+1) (by omega) (by omega)
  ·rw [if_neg (by simp; omega)]
theorem P7 {R:GR} (hK:10≤K) (hR:Gm l R.A1):Gm l (Aw.F K R):=fun ts h=>by
 unfold Aw.F
 obtain ⟨a,e⟩:=hR ts h
 rw [Gc h]
 show ∃ a,Option.bind (R.A1 (rst l ts true)) _=_
 rw [e]
 refine ⟨a,?_⟩
 have:=J9 (K:=K) (R:=R) h a K 0 (by omega) (by omega)
 replace this:Aw.l21 K R a K 0 l (pos l ts) true=_:=this
 show obind (Aw.l21 K R a K 0 l (pos l ts) true) _ _=_
 rw [this]; rfl
theorem O9 {R:GR} {ts:List Tk} (h:Sx l ts) (k:Nat) (a:Nd):Bc.l7 K R (k+1) l (pos l ts) true a.Op a.Name a.Int a.Text a.Kids=some (l,pos l ts,true,a.Op,a.Name,a.Int,a.Text,a.Kids):=by
 rw [Bc.l7]
 show Option.bind (Ah K [97,110,100] (rst l ts true)) _=_
 rw [Gc h]; rfl
theorem Qo {R:GR} (hK:1≤K) (hR:Gm l R.Aw):Gm l (Bc.F K R):=fun ts h=>by
 unfold Bc.F
 obtain ⟨a,e⟩:=hR ts h
 obtain ⟨k,rfl⟩:∃ k,K=k+1:=⟨K - 1,by omega⟩
 rw [e]
 refine ⟨a,?_⟩
 show Option.bind (Bc.l7 _ R (k+1) l (pos l ts) true a.Op a.Name a.Int a.Text a.Kids) _=_
 rw [O9 h]
 simp only [Option.bind_some,Ff]
theorem P9 {R:GR} {ts:List Tk} (h:Sx l ts) (k:Nat) (a:Nd):Am.l7 K R (k+1) l (pos l ts) true a.Op a.Name a.Int a.Text a.Kids=some (l,pos l ts,true,a.Op,a.Name,a.Int,a.Text,a.Kids):=by
 rw [Am.l7]
 show Option.bind (Ah K [111,114] (rst l ts true)) _=_
 rw [Gc h]; rfl
theorem Qg {R:GR} (hK:1≤K) (hR:Gm l R.Bc):Gm l (Am.F K R):=fun ts h=>by
 unfold Am.F
 obtain ⟨a,e⟩:=hR ts h
 obtain ⟨k,rfl⟩:∃ k,K=k+1:=⟨K - 1,by omega⟩
 rw [e]
 refine ⟨a,?_⟩
 show Option.bind (Am.l7 _ R (k+1) l (pos l ts) true a.Op a.Name a.Int a.Text a.Kids) _=_
 rw [P9 h]
 simp only [Option.bind_some,Ff]
theorem Ni {R:GR} (hK:1≤K) (e:List UInt8):Gm l (A5.F K R e):=fun ts h=>by
 unfold A5.F
 obtain ⟨k,rfl⟩:∃ k,K=k+1:=⟨K - 1,by omega⟩
 rw [Gc h]
 exact ⟨_,rfl⟩
theorem badU (hK:10≤K) (g:Nat):Gm l (Ag.upto K (g+1)).Ba∧Gm l (Ag.upto K (g+2)).Av∧Gm l (Ag.upto K (g+3)).A2 ∧
  Gm l (Ag.upto K (g+4)).A1∧Gm l (Ag.upto K (g+5)).Aw∧Gm l (Ag.upto K (g+6)).Bc∧Gm l (Ag.upto K (g+7)).Am:=by
 have h1:=Qa (K:=K) (l:=l) (Ag.upto K g)
 have h2:=Qb (K:=K) (l:=l) (R:=Ag.upto K (g+1)) (by omega) h1
 have h3:=P5 (K:=K) (l:=l) (R:=Ag.upto K (g+2)) (by omega) h2
 have h4:=Ql (K:=K) (l:=l) (R:=Ag.upto K (g+3)) (by omega) h3
 have h5:=P7 (K:=K) (l:=l) (R:=Ag.upto K (g+4)) (by omega) h4
 have h6:=Qo (K:=K) (l:=l) (R:=Ag.upto K (g+5)) (by omega) h5
 have h7:=Qg (K:=K) (l:=l) (R:=Ag.upto K (g+6)) (by omega) h6
 exact ⟨h1,h2,h3,h4,h5,h6,h7⟩
end
end Go.Proofs.YtifjagfmfkemmaaGreatDoor
