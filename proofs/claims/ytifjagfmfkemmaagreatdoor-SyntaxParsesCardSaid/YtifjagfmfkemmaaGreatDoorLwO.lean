import Derived.Test.YtifjagfmfkemmaaGreatDoorLwN
set_option linter.unusedVariables false
set_option linter.unusedSimpArgs false
set_option maxHeartbeats 4000000
namespace Go.Proofs.YtifjagfmfkemmaaGreatDoor
open Eng Go
abbrev RP:=Ad
abbrev GR:=Ah
abbrev rst (l ts:List Tk) (b:Bool):RP:=⟨l,pos l ts,b⟩
def Gs {α:Type} (l:List Tk) (o:Option (α×RP)):Except (List Tk) (α×List Tk)→Prop
 | .ok (a,ts)=>o=some (a,rst l ts false)
 | .error ts=>∃ a,o=some (a,rst l ts true)
def Fy {α:Type} (l:List Tk) (p:List Tk→Rs α) (q:RP→Option (α×RP)):Prop:=∀ ts,Sx l ts→∀ r,p ts=some r→Gs l (q (rst l ts false)) r
def Gh {α:Type} (l:List Tk) (q:RP→Option (α×RP)):Prop:=∀ ts,Sx l ts→∃ a,q (rst l ts true)=some (a,rst l ts true)
section
variable {K:Nat} {l:List Tk}
theorem Io {ts:List Tk} (h:Sx l ts) (b:Bool) (s:List UInt8):B2 K (rst l ts b) s=some (!b && isS s ts):=by
 obtain ⟨t,r,rfl⟩:=h.gd.head;have h1:=h.len; have h3:=h.get;unfold B2;dsimp only [rst,pos];rw [if_pos ⟨by omega,by omega⟩,Int.toNat_natCast,h3];cases b with
 | true=>rfl
 | false =>
  unfold isS;by_cases h2:t.Kind=2
  ·simp [h2]
  ·by_cases h5:t.Kind=5
   ·simp [h5]
   ·simp [h2,h5]
theorem Hk {ts:List Tk} (h:Sx l ts) {s:List UInt8} (hs:isS s ts=true):Ag K s (rst l ts false)=some (true,rst l ts.tail false):=by
 unfold Ag;rw [Io h,hs];show some (true,(⟨l,IntKind.i64.wrap (pos l ts+1),false⟩:RP))=_;rw [h.succ]
theorem He {ts:List Tk} (h:Sx l ts) {s:List UInt8} (hs:¬ isS s ts=true):Ag K s (rst l ts false)=some (false,rst l ts false):=by
 unfold Ag;rw [Io h];simp [hs]
theorem Gi {ts:List Tk} (h:Sx l ts) (s:List UInt8):Ag K s (rst l ts true)=some (false,rst l ts true):=by
 unfold Ag;rw [Io h]; rfl
theorem H4 {ts:List Tk} (h:Sx l ts) {s:List UInt8} (hs:isS s ts=true):Aq K s (rst l ts false)=some (rst l ts.tail false):=by
 unfold Aq;rw [Hk h hs]; rfl
theorem Iu {ts:List Tk} (h:Sx l ts) {s:List UInt8} (hs:¬ isS s ts=true):Aq K s (rst l ts false)=some (rst l ts true):=by
 unfold Aq;rw [He h hs]; rfl
theorem G9 {ts:List Tk} (h:Sx l ts) (s:List UInt8):Aq K s (rst l ts true)=some (rst l ts true):=by
 unfold Aq;rw [Gi h s]; rfl
theorem M0 {t:Tk} {r:List Tk} (h:Sx l (t :: r)):(0:Int)≤pos l (t :: r)∧pos l (t :: r) <(l.length:Int)∧l.getD (Int.toNat (pos l (t :: r))) Dp=t:=by
 have h1:=h.len; have h3:=h.get;exact ⟨by simp only [pos]; omega,by simp only [pos]; omega,by simp only [pos]; rw [Int.toNat_natCast,h3]⟩
theorem Hr {t:Tk} {r:List Tk} (h:Sx l (t :: r)) (k:Int):A4 K (rst l (t :: r) false) k=some (decide (t.Kind=k)):=by
 obtain ⟨h1,h2,h3⟩:=M0 h;unfold A4;dsimp only [rst];rw [if_neg (by simp),if_pos ⟨h1,h2⟩,h3]
theorem Mv {ts:List Tk} (k:Int):A4 K (rst l ts true) k=some false:=by
 unfold A4;exact if_pos rfl
theorem Gq {ts:List Tk} (h:Sx l ts) {r:Except (List Tk) (List UInt8×List Tk)} (hr:Gg ts=some r):Gs l (A1 K (rst l ts false)) r:=by
 obtain ⟨t,u,rfl⟩:=h.gd.head;obtain ⟨h1,h2,h3⟩:=M0 h;unfold A1;rw [Hr h,Option.bind_some];simp only [Gg,Gm] at hr;have hp:IntKind.i64.wrap (IntKind.i64.wrap (pos l (t :: u)+1) - 1)=pos l (t :: u):=by
  have:=h.hl
  rw [w64 (x:=pos l (t :: u)+1) (by omega) (by omega),w64 (by omega) (by omega)]; omega
 by_cases hk:t.Kind=1
 ·rw [if_pos hk] at hr; cases hr;rw [if_pos (by simpa using hk)];dsimp only [rst];rw [hp,if_pos ⟨h1,h2⟩,h3,h.succ]; rfl
 ·rw [if_neg hk] at hr; cases hr;rw [if_neg (by simpa using hk)];exact ⟨_,rfl⟩
theorem T3 {ts:List Tk}:A1 K (rst l ts true)=some ([],rst l ts true):=by
 unfold A1;rw [Mv]; rfl
theorem Ga (op:Int) (a:Nd):B5 K op a=some (nd op [a]):=by unfold B5; rw [Ed]
theorem Hh (op:Int) (a b:Nd):A5 K op a b=some (nd op [a,b]):=by unfold A5; rw [Ed,Ed]
theorem R0 (R:GR):Gh l (Ba.F K R):=fun ts h=>by
 unfold Ba.F;exact ⟨_,if_pos rfl⟩
theorem La {R:GR} {ts:List Tk} (h:Sx l ts) (k:Nat) (a:Nd):Aw.l34 K R (k+1) l (pos l ts) true a.Op a.Name a.Int a.Text a.Kids=some (X3.done (a,rst l ts true)):=by
 rw [Aw.l34];show Option.bind (Ag K [46] (rst l ts true)) _=_;rw [Gi h];show Option.bind (Ag K [91] (rst l ts true)) _=_;rw [Gi h];simp only [Ed]; rfl
theorem V4 {R:GR} (hK:1≤K) (hR:Gh l R.Ba):Gh l (Aw.F K R):=fun ts h=>by
 unfold Aw.F;obtain ⟨a,e⟩:=hR ts h;obtain ⟨k,rfl⟩:∃ k,K=k+1:=⟨K - 1,by omega⟩
 rw [Gi h];show ∃ a,Option.bind (Ag _ [97,119,97,105,116] (rst l ts true)) _=_;rw [Gi h];show ∃ a,Option.bind (Ag _ [103,111] (rst l ts true)) _=_;rw [Gi h];show ∃ a,Option.bind (R.Ba (rst l ts true)) _=_;rw [e];refine ⟨a,?_⟩;show obind (Aw.l34 _ R (k+1) l (pos l ts) true a.Op a.Name a.Int a.Text a.Kids) _ _=_;rw [La h]; rfl
theorem U8 {R:GR} {ts:List Tk} (h:Sx l ts) (k:Nat) (a:Nd):A7.l6 K R (k+1) l (pos l ts) true a.Op a.Name a.Int a.Text a.Kids=some (X3.done (a,rst l ts true)):=by
 rw [A7.l6];show Option.bind (Ag K [42] (rst l ts true)) _=_;rw [Gi h];show Option.bind (Ag K [47] (rst l ts true)) _=_;rw [Gi h];show Option.bind (Ag K [37] (rst l ts true)) _=_;rw [Gi h];simp only [Ed]; rfl
theorem Ww {R:GR} (hK:1≤K) (hR:Gh l R.Aw):Gh l (A7.F K R):=fun ts h=>by
 unfold A7.F;obtain ⟨a,e⟩:=hR ts h;obtain ⟨k,rfl⟩:∃ k,K=k+1:=⟨K - 1,by omega⟩
 rw [e];refine ⟨a,?_⟩;show obind (A7.l6 _ R (k+1) l (pos l ts) true a.Op a.Name a.Int a.Text a.Kids) _ _=_;rw [U8 h]; rfl
theorem T9 {R:GR} {ts:List Tk} (h:Sx l ts) (k:Nat) (a:Nd):A3.l6 K R (k+1) l (pos l ts) true a.Op a.Name a.Int a.Text a.Kids=some (X3.done (a,rst l ts true)):=by
 rw [A3.l6];show Option.bind (Ag K [43] (rst l ts true)) _=_;rw [Gi h];show Option.bind (Ag K [45] (rst l ts true)) _=_;rw [Gi h];simp only [Ed]; rfl
theorem Xe {R:GR} (hK:1≤K) (hR:Gh l R.A7):Gh l (A3.F K R):=fun ts h=>by
 unfold A3.F;obtain ⟨a,e⟩:=hR ts h;obtain ⟨k,rfl⟩:∃ k,K=k+1:=⟨K - 1,by omega⟩
 rw [e];refine ⟨a,?_⟩;show obind (A3.l6 _ R (k+1) l (pos l ts) true a.Op a.Name a.Int a.Text a.Kids) _ _=_;rw [T9 h]; rfl
theorem Mq {R:GR} {ts:List Tk} (h:Sx l ts) (a:Nd):∀ (k i:Nat),6 < i+k→i≤6→Ax.l21 K R a k i l (pos l ts) true=some (X3.go (l,pos l ts,true))
 | 0,i,h1,h2=>by omega
 | k+1,i,h1,h2=>by
  rw [Ax.l21];by_cases hi:i < 6
  ·rw [if_pos (by simp; omega),if_pos (by simp; omega)];show Option.bind (Ag K _ (rst l ts true)) _=_;rw [Gi h];show Ax.l21 K R a k (IntKind.i64.wrap ((i:Int)+1)) l (pos l ts) true=_;rw [w64 (by omega) (by omega)];exact Mq h a k (i+1) (by omega) (by omega)
  ·rw [if_neg (by simp; omega)]
theorem V5 {R:GR} (hK:10≤K) (hR:Gh l R.A3):Gh l (Ax.F K R):=fun ts h=>by
 unfold Ax.F;obtain ⟨a,e⟩:=hR ts h;rw [Gi h];show ∃ a,Option.bind (R.A3 (rst l ts true)) _=_;rw [e];refine ⟨a,?_⟩
 have:=Mq (K:=K) (R:=R) h a K 0 (by omega) (by omega)
 replace this:Ax.l21 K R a K 0 l (pos l ts) true=_:=this;show obind (Ax.l21 K R a K 0 l (pos l ts) true) _ _=_;rw [this]; rfl
theorem Uo {R:GR} {ts:List Tk} (h:Sx l ts) (k:Nat) (a:Nd):Bj.l7 K R (k+1) l (pos l ts) true a.Op a.Name a.Int a.Text a.Kids=some (l,pos l ts,true,a.Op,a.Name,a.Int,a.Text,a.Kids):=by
 rw [Bj.l7];show Option.bind (Ag K [97,110,100] (rst l ts true)) _=_;rw [Gi h]; rfl
theorem Wz {R:GR} (hK:1≤K) (hR:Gh l R.Ax):Gh l (Bj.F K R):=fun ts h=>by
 unfold Bj.F;obtain ⟨a,e⟩:=hR ts h;obtain ⟨k,rfl⟩:∃ k,K=k+1:=⟨K - 1,by omega⟩
 rw [e];refine ⟨a,?_⟩;show Option.bind (Bj.l7 _ R (k+1) l (pos l ts) true a.Op a.Name a.Int a.Text a.Kids) _=_;rw [Uo h];simp only [Option.bind_some,Ed]
theorem Xd {R:GR} {ts:List Tk} (h:Sx l ts) (k:Nat) (a:Nd):Al.l7 K R (k+1) l (pos l ts) true a.Op a.Name a.Int a.Text a.Kids=some (l,pos l ts,true,a.Op,a.Name,a.Int,a.Text,a.Kids):=by
 rw [Al.l7];show Option.bind (Ag K [111,114] (rst l ts true)) _=_;rw [Gi h]; rfl
theorem W5 {R:GR} (hK:1≤K) (hR:Gh l R.Bj):Gh l (Al.F K R):=fun ts h=>by
 unfold Al.F;obtain ⟨a,e⟩:=hR ts h;obtain ⟨k,rfl⟩:∃ k,K=k+1:=⟨K - 1,by omega⟩
 rw [e];refine ⟨a,?_⟩;show Option.bind (Al.l7 _ R (k+1) l (pos l ts) true a.Op a.Name a.Int a.Text a.Kids) _=_;rw [Xd h];simp only [Option.bind_some,Ed]
theorem Ow {R:GR} (hK:1≤K) (e:List UInt8):Gh l (A8.F K R e):=fun ts h=>by
 unfold A8.F;obtain ⟨k,rfl⟩:∃ k,K=k+1:=⟨K - 1,by omega⟩
 rw [Gi h];exact ⟨_,rfl⟩
theorem badU (hK:10≤K) (g:Nat):Gh l (Ah.upto K (g+1)).Ba∧Gh l (Ah.upto K (g+2)).Aw∧Gh l (Ah.upto K (g+3)).A7 ∧
  Gh l (Ah.upto K (g+4)).A3∧Gh l (Ah.upto K (g+5)).Ax∧Gh l (Ah.upto K (g+6)).Bj∧Gh l (Ah.upto K (g+7)).Al:=by
 have h1:=R0 (K:=K) (l:=l) (Ah.upto K g);have h2:=V4 (K:=K) (l:=l) (R:=Ah.upto K (g+1)) (by omega) h1;have h3:=Ww (K:=K) (l:=l) (R:=Ah.upto K (g+2)) (by omega) h2;have h4:=Xe (K:=K) (l:=l) (R:=Ah.upto K (g+3)) (by omega) h3;have h5:=V5 (K:=K) (l:=l) (R:=Ah.upto K (g+4)) (by omega) h4;have h6:=Wz (K:=K) (l:=l) (R:=Ah.upto K (g+5)) (by omega) h5;have h7:=W5 (K:=K) (l:=l) (R:=Ah.upto K (g+6)) (by omega) h6;exact ⟨h1,h2,h3,h4,h5,h6,h7⟩
end
end Go.Proofs.YtifjagfmfkemmaaGreatDoor
