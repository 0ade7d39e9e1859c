import Derived.Test.YtdgejpgbppfhmaaGreatDoorFn5
set_option linter.unusedVariables false
set_option linter.unusedSimpArgs false
set_option maxHeartbeats 4000000
namespace Go.Proofs.YtdgejpgbppfhmaaGreatDoor
open Eng Go
mutual
def nsz:Aa→Nat
 |⟨_,_,_,_,k⟩=>lsz k+1
def lsz:List Aa→Nat
 | []=>0
 | x :: l=>nsz x+lsz l
end
theorem Gg (n:Aa):nsz n=lsz n.Kids+1:=by cases n; simp [nsz]
theorem Gx (n:Aa):1≤nsz n:=by rw [Gg]; omega
theorem D7:∀ {l:List Aa} {x:Aa},x∈l→nsz x≤lsz l
 | y :: l,x,h=>by
  rcases List.mem_cons.1 h with e | e
  ·subst e; simp [lsz]
  ·have:=D7 e; simp [lsz]; omega
theorem Gf:∀ (l:List Aa),l.length≤lsz l
 | []=>by simp
 | y :: l=>by have:=Gf l; have:=Gx y; simp [lsz]; omega
theorem Hf {α:Type} {l:List α} {i:Nat} {d:α} (h:i < l.length):l.getD i d=l[i]:=by simp [List.getD,h]
theorem K8 {l:List Aa} {i:Nat} (h:i < l.length):lsz (l.drop i)=nsz (l.getD i Ah)+lsz (l.drop (i+1)):=by
 rw [List.drop_eq_getElem_cons h,lsz,Hf h]
theorem G0 {l:List Aa} {i:Nat} (h:i < l.length):l.getD i Ah∈l:=by
 rw [Hf h]; exact List.getElem_mem h
theorem w64 {x:Int} (h:-9223372036854775808≤x) (h':x≤9223372036854775807):IntKind.i64.wrap x=x:=by
 unfold IntKind.wrap; simp only [IntKind.signed,IntKind.bits]; simp; omega
def isL (c:UInt8):Bool:=(decide (97≤c.toNat) && decide (c.toNat≤122)) ||(decide (65≤c.toNat) && decide (c.toNat≤90)) || decide (c.toNat=95)
def isD (c:UInt8):Bool:=decide (48≤c.toNat) && decide (c.toNat≤57)
def isW (c:UInt8):Bool:=isL c || isD c
def isB (c:UInt8):Bool:=decide (c.toNat=32) || decide (c.toNat=9) || decide (c.toNat=10)
def hd:Ge→Int
 | []=> -1
 | c :: _=>(c.toNat:Int)
def Ph (p:UInt8→Bool):Ge→Bool
 | []=>false
 | c :: _=>p c
theorem Lw (c:UInt8):c.toNat < 256:=c.toNat_lt
theorem O7 {n:Nat} (h:n < 9223372036854775807):IntKind.i64.wrap ((n:Int)+1)=((n+1:Nat):Int):=by rw [Eng.wrap_small (by omega) (by omega)]; omega
theorem Ka {α:Type} (l:List α) (i:Nat) (c:α) (r:List α) (d:α) (h:l.drop i=c :: r):l.getD i d=c∧i < l.length∧l.drop (i+1)=r:=by
 have hlt:i < l.length:=by
  rcases Nat.lt_or_ge i l.length with h' | h'
  ·exact h'
  ·rw [List.drop_eq_nil_of_le h'] at h; cases h
 rw [List.drop_eq_getElem_cons hlt] at h;injection h with h1 h2;exact ⟨by simp [List.getD,hlt,h1],hlt,h2⟩
theorem K5 (n:Nat):((if (n:Int)≥97 then (if (n:Int)≤122 then some true else (if (n:Int)≥65 then (if (n:Int)≤90 then some true else some (decide ((n:Int)=95))) else some (decide ((n:Int)=95)))) else (if (n:Int)≥65 then (if (n:Int)≤90 then some true else some (decide ((n:Int)=95))) else some (decide ((n:Int)=95)))):Option Bool)=some ((decide (97≤n) && decide (n≤122)) ||(decide (65≤n) && decide (n≤90)) || decide (n=95)):=by
 have e:∀ m:Nat,((n:Int)=(m:Int))↔n=m:=fun m=>by omega
 have e95:=e 95;have g1:((n:Int)≥97)↔97≤n:=by omega
 have g2:((n:Int)≤122)↔n≤122:=by omega
 have g3:((n:Int)≥65)↔65≤n:=by omega
 have g4:((n:Int)≤90)↔n≤90:=by omega
 have g5:((n:Int)=95)↔n=95:=by omega
 simp only [g1,g2,g3,g4,g5];by_cases a:97≤n <;> by_cases b:n≤122 <;> by_cases c:65≤n <;> by_cases d:n≤90 <;> simp [a,b,c,d] <;> omega
def kws:List Ge:=[[97,110,100],[97,119,97,105,116],[99,97,115,101],[99,97,116,99,104],[99,104,101,99,107],[101,108,115,101],[102,97,108,115,101],[102,117,110,99],[103,111],[105,102],[108,101,116],[110,111,116],[110,117,108,108],[111,110],[111,114],[113,117,101,114,121],[114,101,116,117,114,110],[115,97,103,97],[115,101,108,101,99,116],[115,105,103,110,97,108],[116,104,114,111,119],[116,114,117,101],[116,114,121],[117,110,100,111],[117,112,100,97,116,101],[118,97,114],[119,104,105,108,101]]
def isK (s:Ge):Bool:=decide (s∈kws)
theorem Mx (K:Nat) (l:List Ge) (v:Ge) (hl:l.length < 1000):∀ (k i:Nat),l.length - i < k→i≤l.length →
  (∃ j:Nat,E3.l7 K l v k (i:Int)=some (.done (j:Int))∧v∈l.drop i)∨(E3.l7 K l v k (i:Int)=some (.go ())∧v ∉ l.drop i)
 | 0,i,h,_=>by omega
 | k+1,i,h,hi=>by
  unfold E3.l7;by_cases hlt:i < l.length
  ·rw [if_pos (by omega),if_pos ⟨by omega,by omega⟩,Int.toNat_natCast,List.drop_eq_getElem_cons hlt];have hg:l.getD i []=l[i]:=by simp [List.getD,hlt]
   rw [hg];by_cases he:v=l[i]
   ·rw [if_pos he]; exact .inl ⟨i,rfl,by rw [he]; exact .head _⟩
   ·rw [if_neg he,O7 (by omega)];rcases Mx K l v hl k (i+1) (by omega) (by omega) with ⟨j,h1,h2⟩ |⟨h1,h2⟩
    ·exact .inl ⟨j,h1,.tail _ h2⟩
    ·exact .inr ⟨h1,fun hm=>(List.mem_cons.1 hm).elim he h2⟩
  ·rw [if_neg (by omega)];exact .inr ⟨rfl,by rw [List.drop_eq_nil_of_le (by omega)]; simp⟩
theorem Nc {K:Nat} {l:List Ge} {v:Ge} (hl:l.length < 1000) (hK:1000≤K):Gn K l v=some (decide (v∈l)):=by
 unfold Gn E3;rcases Mx K l v hl K 0 (by omega) (by omega) with ⟨j,h1,h2⟩ |⟨h1,h2⟩
 ·have h1':E3.l7 K l v K 0=some (.done (j:Int)):=h1;rw [h1']
  have:v∈l:=by simpa using h2
  simp [Ub,this]
 ·have h1':E3.l7 K l v K 0=some (.go ()):=h1;rw [h1']
  have:v ∉ l:=by simpa using h2
  simp [Ub,this]
theorem N8 {K:Nat} (hK:1000≤K) (s:Ge):Gq K s=some (isK s):=by
 unfold Gq;rw [if_pos (by decide +kernel)];have e:Lib.fields ([97,110,100,32,97,119,97,105,116,32,99,97,115,101,32,99,97,116,99,104,32,99,104,101,99,107,32,101,108,115,101,32,102,97,108,115,101,32,102,117,110,99,32,103,111,32,105,102,32,108,101,116,32,110,111,116,32,110,117,108,108,32,111,110,32,111,114,32,113,117,101,114,121,32,114,101,116,117,114,110,32,115,97,103,97,32,115,101,108,101,99,116,32,115,105,103,110,97,108,32,116,104,114,111,119,32,116,114,117,101,32,116,114,121,32,117,110,100,111,32,117,112,100,97,116,101,32,118,97,114,32,119,104,105,108,101]:Ge)=kws:=by decide +kernel
 rw [e,Nc (by decide) hK];rfl
theorem Kr (K:Nat) (v:Ge) (l:List Ge) (hl:l.length < 1000):∀ (k i:Nat),l.length - i < k→i≤l.length →
  Eb.l7 K v l k (i:Int)=some (if v∈l.drop i then .done true else .go ())
 | 0,i,h,_=>by omega
 | k+1,i,h,hi=>by
  unfold Eb.l7;by_cases hlt:i < l.length
  ·rw [if_pos (by omega),if_pos ⟨by omega,by omega⟩,Int.toNat_natCast,List.drop_eq_getElem_cons hlt];have hg:l.getD i []=l[i]:=by simp [List.getD,hlt]
   rw [hg];by_cases he:l[i]=v
   ·rw [if_pos he]; simp [he]
   ·rw [if_neg he,O7 (by omega),Kr K v l hl k (i+1) (by omega) (by omega)];have e2:(v∈l[i] :: l.drop (i+1))↔v∈l.drop (i+1):=⟨fun h=>(List.mem_cons.1 h).resolve_left fun e=>he e.symm,.tail _⟩
    simp only [e2]
  ·rw [if_neg (by omega),List.drop_eq_nil_of_le (by omega)];simp
theorem M2 {K:Nat} (hK:1000≤K) (s:Ge):Eb K s=some (isK s):=by
 unfold Eb Gk;rw [Option.bind_some];have h:=Kr K s kws (by decide) K 0 (by have:kws.length=27:=rfl; omega) (by omega);have h':Eb.l7 K s kws K 0=_:=h;show Ub (Eb.l7 K s kws K 0) _ _=_;rw [h'];unfold isK;by_cases hm:s∈kws <;> simp [Ub,hm]
def hx (c:UInt8):Int:=if isD c=true then (c.toNat:Int) - 48 else if 97≤c.toNat∧c.toNat≤102 then (c.toNat:Int) - 87 else -1
theorem ofNat_toNat (c:UInt8):UInt8.ofNat c.toNat=c:=UInt8.ofNat_toNat
def okT (src:Ge) (i:Nat) (r:Except Int (Ge×Ge)) (x:Option (Ty (Av×Int×A4) Unit)):Prop :=
 match r with
 | .ok (t,rest)=>∃ j:Nat,i < j∧j≤src.length∧rest=src.drop j∧x=some (.done (⟨4,0,t,0⟩,0,⟨src,(j:Int)⟩))
 | .error e=>e≠0∧∃ t q,x=some (.done (t,e,q))
theorem okT.ok {src:Ge} {i j:Nat} {t:Ge} (h1:i < j) (h2:j≤src.length):okT src i (.ok (t,src.drop j)) (some (.done (⟨4,0,t,0⟩,0,⟨src,(j:Int)⟩))):=⟨j,h1,h2,rfl,rfl⟩
def okS (src:Ge) (i:Nat) (r:Except Int (Av×Ge)) (x:Option (Av×Int×A4)):Prop :=
 match r with
 | .ok (t,rest)=>∃ j:Nat,i < j∧j≤src.length∧rest=src.drop j∧x=some (t,0,⟨src,(j:Int)⟩)
 | .error e=>e≠0∧∃ t q,x=some (t,e,q)
theorem okS.ok {src:Ge} {i j:Nat} {t:Av} {rest:Ge} (h1:i < j) (h2:j≤src.length) (h3:rest=src.drop j):okS src i (.ok (t,rest)) (some (t,0,⟨src,(j:Int)⟩)):=⟨j,h1,h2,h3,rfl⟩
theorem Qx {n:Int} (h:0≤n) (h2:n < 256):IntKind.u8.wrap n=n:=by
 obtain ⟨m,rfl⟩:∃ m:Nat,n=(m:Int):=⟨n.toNat,by omega⟩
 unfold IntKind.wrap;simp [IntKind.bits,IntKind.signed];omega
theorem gd {p0:Ge} {i:Nat} {c:UInt8} {r:Ge} (h:p0.drop i=c :: r):p0.getD (Int.toNat (i:Int)) 0=c:=by
 rw [Int.toNat_natCast]; exact (Ka _ _ c r 0 h).1
end Go.Proofs.YtdgejpgbppfhmaaGreatDoor
