import Derived.Test.YtifjagfmfkemmaaGreatDoorLwA
set_option linter.unusedVariables false
set_option linter.unusedSimpArgs false
set_option maxHeartbeats 4000000
namespace Go.Proofs.YtifjagfmfkemmaaGreatDoor
open Eng
def isL (c:UInt8):Bool:=(decide (97≤c.toNat) && decide (c.toNat≤122)) ||(decide (65≤c.toNat) && decide (c.toNat≤90)) || decide (c.toNat=95)
def isD (c:UInt8):Bool:=decide (48≤c.toNat) && decide (c.toNat≤57)
def isW (c:UInt8):Bool:=isL c || isD c
def isB (c:UInt8):Bool:=decide (c.toNat=32) || decide (c.toNat=9) || decide (c.toNat=10)
def hd:List UInt8→Int
 | []=> -1
 | c :: _=>(c.toNat:Int)
def F1 (p:UInt8→Bool):List UInt8→Bool
 | []=>false
 | c :: _=>p c
theorem Im (c:UInt8):c.toNat < 256:=c.toNat_lt
theorem Oo (c:UInt8):IntKind.i32.wrap (c.toNat:Int)=(c.toNat:Int):=by
 have:=Im c
 unfold IntKind.wrap;simp [IntKind.bits,IntKind.signed];omega
theorem Np (c:UInt8):IntKind.u8.wrap (c.toNat:Int)=(c.toNat:Int):=by
 have:=Im c
 unfold IntKind.wrap;simp [IntKind.bits,IntKind.signed];omega
theorem I6 {n:Nat} (h:n < 9223372036854775807):IntKind.i64.wrap ((n:Int)+1)=((n+1:Nat):Int):=by rw [Eng.wrap_small (by omega) (by omega)]; omega
theorem Ry {n m:Nat} (h:n+m≤9223372036854775807):IntKind.i64.wrap ((n:Int)+(m:Int))=((n+m:Nat):Int):=by rw [Eng.wrap_small (by omega) (by omega)]; omega
theorem F2 {α:Type} (l:List α) (i:Nat) (c:α) (r:List α) (d:α) (h:l.drop i=c :: r):l.getD i d=c∧i < l.length∧l.drop (i+1)=r:=by
 have hlt:i < l.length:=by
  rcases Nat.lt_or_ge i l.length with h' | h'
  ·exact h'
  ·rw [List.drop_eq_nil_of_le h'] at h; cases h
 rw [List.drop_eq_getElem_cons hlt] at h;injection h with h1 h2;exact ⟨by simp [List.getD,hlt,h1],hlt,h2⟩
theorem Nf (K:Nat) (src:List UInt8) (i k:Nat) (h:i+k < 9223372036854775807):Cc K ⟨src,(i:Int)⟩ (k:Int)=some (hd (src.drop (i+k))):=by
 unfold Cc;simp only;rw [Ry (by omega)];by_cases hlt:i+k < src.length
 ·rw [if_neg (by omega),if_pos ⟨by omega,by omega⟩,Int.toNat_natCast];rw [List.drop_eq_getElem_cons hlt];simp [hd,List.getD,hlt,Oo]
 ·rw [if_pos (by omega),List.drop_eq_nil_of_le (by omega)];rfl
theorem Ih (K:Nat) (src:List UInt8) (i:Nat) (h:i < 9223372036854775807):Cc K ⟨src,(i:Int)⟩ 0=some (hd (src.drop i)):=Nf K src i 0 (by omega)
theorem peek1 (K:Nat) (src:List UInt8) (i:Nat) (h:i+1 < 9223372036854775807):Cc K ⟨src,(i:Int)⟩ 1=some (hd (src.drop (i+1))):=Nf K src i 1 (by omega)
theorem Mu (n:Nat):((if (n:Int)≥97 then (if (n:Int)≤122 then some true else (if (n:Int)≥65 then (if (n:Int)≤90 then some true else some (decide ((n:Int)=95))) else some (decide ((n:Int)=95)))) else (if (n:Int)≥65 then (if (n:Int)≤90 then some true else some (decide ((n:Int)=95))) else some (decide ((n:Int)=95)))):Option Bool)=some ((decide (97≤n) && decide (n≤122)) ||(decide (65≤n) && decide (n≤90)) || decide (n=95)):=by
 have e:∀ m:Nat,((n:Int)=(m:Int))↔n=m:=fun m=>by omega
 have e95:=e 95;have g1:((n:Int)≥97)↔97≤n:=by omega
 have g2:((n:Int)≤122)↔n≤122:=by omega
 have g3:((n:Int)≥65)↔65≤n:=by omega
 have g4:((n:Int)≤90)↔n≤90:=by omega
 have g5:((n:Int)=95)↔n=95:=by omega
 simp only [g1,g2,g3,g4,g5];by_cases a:97≤n <;> by_cases b:n≤122 <;> by_cases c:65≤n <;> by_cases d:n≤90 <;> simp [a,b,c,d] <;> omega
theorem Iw (K:Nat) (s:List UInt8):Ei K (hd s)=some (F1 isL s):=by
 cases s with
 | nil=>unfold Ei; rfl
 | cons c r=>exact Mu c.toNat
theorem J4 (K:Nat) (s:List UInt8):Ew K (hd s)=some (F1 isD s):=by
 cases s with
 | nil=>unfold Ew; rfl
 | cons c r =>
  unfold Ew;show (if (c.toNat:Int)≥48 then some (decide ((c.toNat:Int)≤57)) else some false)=some (decide (48≤c.toNat) && decide (c.toNat≤57));by_cases h:48≤c.toNat
  ·rw [if_pos (by omega)]; simp [h]; omega
  ·rw [if_neg (by omega)]; simp [h]
theorem Qx (K:Nat) (s:List UInt8):D8 K (hd s)=some (F1 isW s):=by
 unfold D8;rw [Iw,Option.bind_some,J4];cases s with
 | nil=>rfl
 | cons c r =>
  show (if isL c=true then some true else some (isD c))=some (isL c || isD c);by_cases h:isL c=true
  ·rw [if_pos h,h]; rfl
  ·rw [if_neg h,Bool.eq_false_iff.2 h]; rfl
theorem Oq (K:Nat) (s:List UInt8):E0 K (hd s)=some (F1 isB s):=by
 cases s with
 | nil=>unfold E0; rfl
 | cons c r =>
  unfold E0;show (if (c.toNat:Int)=32 then some true else (if (c.toNat:Int)=9 then some true else some (decide ((c.toNat:Int)=10))))=some (decide (c.toNat=32) || decide (c.toNat=9) || decide (c.toNat=10));by_cases h1:c.toNat=32
  ·rw [if_pos (by omega)]; simp [h1]
  ·rw [if_neg (by omega)];by_cases h2:c.toNat=9
   ·rw [if_pos (by omega)]; simp [h2]
   ·rw [if_neg (by omega)]; simp [h1,h2]; omega
theorem Kl (K:Nat) (p0:Aw):∀ (k i:Nat),(p0.src.drop i).length < k→i+k < 9223372036854775807→C7.l7 K p0 k (i:Int)=some ((i+((p0.src.drop i).takeWhile isB).length:Nat):Int)
 | 0,i,h,_=>by omega
 | k+1,i,h,hi=>by
  unfold C7.l7;rw [Ih _ _ _ (by omega),Option.bind_some,Oq,Option.bind_some];cases hs:p0.src.drop i with
  | nil=>simp [F1]
  | cons c r =>
   obtain ⟨_,_,hr⟩:=F2 _ _ c r c hs;rw [show F1 isB (c :: r)=isB c from rfl,List.takeWhile_cons];by_cases hb:isB c=true
   ·rw [if_pos hb,if_pos hb,I6 (by omega),Kl K p0 k (i+1) (by rw [hr]; rw [hs] at h; simpa using h) (by omega),hr];simp; omega
   ·rw [if_neg hb,if_neg hb]; simp
theorem Ko (K:Nat) (p0:Aw):∀ (k i:Nat),(p0.src.drop i).length < k→i+k < 9223372036854775807→C9.l7 K p0 k (i:Int)=some ((i+((p0.src.drop i).takeWhile isW).length:Nat):Int)
 | 0,i,h,_=>by omega
 | k+1,i,h,hi=>by
  unfold C9.l7;rw [Ih _ _ _ (by omega),Option.bind_some,Qx,Option.bind_some];cases hs:p0.src.drop i with
  | nil=>simp [F1]
  | cons c r =>
   obtain ⟨_,_,hr⟩:=F2 _ _ c r c hs;rw [show F1 isW (c :: r)=isW c from rfl,List.takeWhile_cons];by_cases hb:isW c=true
   ·rw [if_pos hb,if_pos hb,I6 (by omega),Ko K p0 k (i+1) (by rw [hr]; rw [hs] at h; simpa using h) (by omega),hr];simp; omega
   ·rw [if_neg hb,if_neg hb]; simp
theorem Ke (K:Nat) (p0:Aw):∀ (k i:Nat),(p0.src.drop i).length < k→i+k < 9223372036854775807→C8.l7 K p0 k (i:Int)=some ((i+((p0.src.drop i).takeWhile isD).length:Nat):Int)
 | 0,i,h,_=>by omega
 | k+1,i,h,hi=>by
  unfold C8.l7;rw [Ih _ _ _ (by omega),Option.bind_some,J4,Option.bind_some];cases hs:p0.src.drop i with
  | nil=>simp [F1]
  | cons c r =>
   obtain ⟨_,_,hr⟩:=F2 _ _ c r c hs;rw [show F1 isD (c :: r)=isD c from rfl,List.takeWhile_cons];by_cases hb:isD c=true
   ·rw [if_pos hb,if_pos hb,I6 (by omega),Ke K p0 k (i+1) (by rw [hr]; rw [hs] at h; simpa using h) (by omega),hr];simp; omega
   ·rw [if_neg hb,if_neg hb]; simp
theorem M6 {α:Type} (p:α→Bool):∀ s:List α,s.take (s.takeWhile p).length=s.takeWhile p
 | []=>rfl
 | c :: r=>by
  rw [List.takeWhile_cons];cases p c with
  | false=>rfl
  | true=>simp [M6 p r]
theorem tw_le {α:Type} (p:α→Bool) (s:List α):(s.takeWhile p).length≤s.length:=(List.takeWhile_sublist p).length_le
theorem Mm (src:List UInt8) (p:UInt8→Bool) (i:Nat):slc src (i:Int) ((i+((src.drop i).takeWhile p).length:Nat):Int)=(src.drop i).takeWhile p:=by
 unfold slc;rw [Int.toNat_natCast,Int.toNat_natCast,show i+((src.drop i).takeWhile p).length - i=((src.drop i).takeWhile p).length from by omega,M6]
theorem G9 (src:List UInt8) (p:UInt8→Bool) (i:Nat) (hi:i≤src.length):i+((src.drop i).takeWhile p).length≤src.length:=by
 have:=tw_le p (src.drop i)
 rw [List.length_drop] at this;omega
theorem N3 {K:Nat} {src:List UInt8} {i:Nat} (hi:i≤src.length) (hK:src.length < K) (hb:src.length+K < 9000000000) :
  C7 K ⟨src,(i:Int)⟩=some ((src.drop i).takeWhile isB,⟨src,((i+((src.drop i).takeWhile isB).length:Nat):Int)⟩):=by
 have:=G9 src isB i hi
 unfold C7;rw [Kl K ⟨src,(i:Int)⟩ K i (by simp; omega) (by omega),Option.bind_some];simp only;rw [if_pos ⟨by omega,by omega,by omega⟩,Mm]
theorem N4 {K:Nat} {src:List UInt8} {i:Nat} (hi:i≤src.length) (hK:src.length < K) (hb:src.length+K < 9000000000) :
  C9 K ⟨src,(i:Int)⟩=some ((src.drop i).takeWhile isW,⟨src,((i+((src.drop i).takeWhile isW).length:Nat):Int)⟩):=by
 have:=G9 src isW i hi
 unfold C9;rw [Ko K ⟨src,(i:Int)⟩ K i (by simp; omega) (by omega),Option.bind_some];simp only;rw [if_pos ⟨by omega,by omega,by omega⟩,Mm]
theorem N9 {K:Nat} {src:List UInt8} {i:Nat} (hi:i≤src.length) (hK:src.length < K) (hb:src.length+K < 9000000000) :
  C8 K ⟨src,(i:Int)⟩=some ((src.drop i).takeWhile isD,⟨src,((i+((src.drop i).takeWhile isD).length:Nat):Int)⟩):=by
 have:=G9 src isD i hi
 unfold C8;rw [Ke K ⟨src,(i:Int)⟩ K i (by simp; omega) (by omega),Option.bind_some];simp only;rw [if_pos ⟨by omega,by omega,by omega⟩,Mm]
def kws:List (List UInt8):=[[97,110,100],[97,119,97,105,116],[99,97,115,101],[99,97,116,99,104],[99,104,101,99,107],[101,108,115,101],[102,97,108,115,101],[102,117,110,99],[103,111],[105,102],[108,101,116],[110,111,116],[110,117,108,108],[111,110],[111,114],[113,117,101,114,121],[114,101,116,117,114,110],[115,97,103,97],[115,101,108,101,99,116],[115,105,103,110,97,108],[116,104,114,111,119],[116,114,117,101],[116,114,121],[117,110,100,111],[117,112,100,97,116,101],[118,97,114],[119,104,105,108,101]]
def isK (s:List UInt8):Bool:=decide (s∈kws)
theorem Lw (K:Nat) (l:List (List UInt8)) (v:List UInt8) (hl:l.length < 1000):∀ (k i:Nat),l.length - i < k→i≤l.length →
  (∃ j:Nat,Dt.l7 K l v k (i:Int)=some (.done (j:Int))∧v∈l.drop i)∨(Dt.l7 K l v k (i:Int)=some (.go ())∧v ∉ l.drop i)
 | 0,i,h,_=>by omega
 | k+1,i,h,hi=>by
  unfold Dt.l7;by_cases hlt:i < l.length
  ·rw [if_pos (by omega),if_pos ⟨by omega,by omega⟩,Int.toNat_natCast,List.drop_eq_getElem_cons hlt];have hg:l.getD i []=l[i]:=by simp [List.getD,hlt]
   rw [hg];by_cases he:v=l[i]
   ·rw [if_pos he]; exact .inl ⟨i,rfl,by rw [he]; exact .head _⟩
   ·rw [if_neg he,I6 (by omega)];rcases Lw K l v hl k (i+1) (by omega) (by omega) with ⟨j,h1,h2⟩ |⟨h1,h2⟩
    ·exact .inl ⟨j,h1,.tail _ h2⟩
    ·exact .inr ⟨h1,fun hm=>(List.mem_cons.1 hm).elim he h2⟩
  ·rw [if_neg (by omega)];exact .inr ⟨rfl,by rw [List.drop_eq_nil_of_le (by omega)]; simp⟩
theorem L0 {K:Nat} {l:List (List UInt8)} {v:List UInt8} (hl:l.length < 1000) (hK:1000≤K):Eh K l v=some (decide (v∈l)):=by
 unfold Eh Dt;rcases Lw K l v hl K 0 (by omega) (by omega) with ⟨j,h1,h2⟩ |⟨h1,h2⟩
 ·have h1':Dt.l7 K l v K 0=some (.done (j:Int)):=h1;rw [h1']
  have:v∈l:=by simpa using h2
  simp [obind,this]
 ·have h1':Dt.l7 K l v K 0=some (.go ()):=h1;rw [h1']
  have:v ∉ l:=by simpa using h2
  simp [obind,this]
theorem Ml {K:Nat} (hK:1000≤K) (s:List UInt8):El K s=some (isK s):=by
 unfold El;rw [if_pos (by decide +kernel)];have e:Lib.fields ([97,110,100,32,97,119,97,105,116,32,99,97,115,101,32,99,97,116,99,104,32,99,104,101,99,107,32,101,108,115,101,32,102,97,108,115,101,32,102,117,110,99,32,103,111,32,105,102,32,108,101,116,32,110,111,116,32,110,117,108,108,32,111,110,32,111,114,32,113,117,101,114,121,32,114,101,116,117,114,110,32,115,97,103,97,32,115,101,108,101,99,116,32,115,105,103,110,97,108,32,116,104,114,111,119,32,116,114,117,101,32,116,114,121,32,117,110,100,111,32,117,112,100,97,116,101,32,118,97,114,32,119,104,105,108,101]:List UInt8)=kws:=by decide +kernel
 rw [e,L0 (by decide) hK];rfl
def hx (c:UInt8):Int:=if isD c=true then (c.toNat:Int) - 48 else if 97≤c.toNat∧c.toNat≤102 then (c.toNat:Int) - 87 else -1
def Gz (acc:List UInt8):List UInt8→Except Int (List UInt8×List UInt8)
 | []=>.error 4
 | c :: r =>
  if c.toNat=34 then (if 4096 < acc.length then .error 6 else .ok (acc,r))
  else if c.toNat=92 then
   (match r with
   | []=>.error 4
   | d :: r2 =>
    if d.toNat=34∨d.toNat=92 then Gz (acc++[d]) r2
    else if d.toNat=110 then Gz (acc++[10]) r2
    else if d.toNat=116 then Gz (acc++[9]) r2
    else if d.toNat=120 then
     (match r2 with
     | []=>.error 4
     | x :: r3 =>
      if hx x < 0 then .error 3
      else
       (match r3 with
       | []=>.error 4
       | y :: r4=>if hx y < 0 then .error 3 else Gz (acc++[UInt8.ofNat (16 * hx x+hx y).toNat]) r4))
    else .error 3)
  else if 32≤c.toNat∧c.toNat≤126 then Gz (acc++[c]) r
  else .error 3
def Pq (s:List UInt8):Except Int (Aq×List UInt8) :=
 if 64 <(s.takeWhile isW).length then .error 8 else .ok (⟨if isK (s.takeWhile isW) then 2 else 1,0,s.takeWhile isW,0⟩,s.dropWhile isW)
def L5 (s:List UInt8):Bool:=(decide (1 <(s.takeWhile isD).length) && F1 (fun c=>decide (c.toNat=48)) s) || F1 isL (s.dropWhile isD)
def P2 (s:List UInt8):Except Int (Aq×List UInt8) :=
 if L5 s=true then .error 3 else if Jz (s.takeWhile isD)=true then .ok (⟨3,0,[],Io (s.takeWhile isD)⟩,s.dropWhile isD) else .error 14
def sg1:List Nat:=[40,41,123,125,91,93,44,59,46,58,43,45,42,47,37]
def sg2:List Nat:=[61,60,62,33]
def F4:List UInt8→Nat
 | []=>0
 | c :: r=>if c.toNat∈sg2 then (if hd r=61 then 2 else if c.toNat≠33 then 1 else 0) else if c.toNat∈sg1 then 1 else 0
def H7 (s:List UInt8):Except Int (Aq×List UInt8) :=
 if F1 isL s=true then Pq s
 else if F1 isD s=true then P2 s
 else if hd s=34 then (match Gz [] s.tail with | .ok (t,r)=>.ok (⟨4,0,t,0⟩,r) | .error e=>.error e)
 else if F4 s=0 then .error 3 else .ok (⟨5,0,s.take (F4 s),0⟩,s.drop (F4 s))
theorem M0 {α:Type} (p:α→Bool):∀ s:List α,s.dropWhile p=s.drop (s.takeWhile p).length
 | []=>rfl
 | c :: r=>by
  rw [List.dropWhile_cons,List.takeWhile_cons];by_cases h:p c=true
  ·rw [if_pos h,if_pos h,List.length_cons,List.drop_succ_cons]; exact M0 p r
  ·rw [if_neg h,if_neg h]; rfl
theorem hexI:∀ n:Fin 256,Lib.indexByte ([48,49,50,51,52,53,54,55,56,57,97,98,99,100,101,102]:List UInt8) (Int.toNat (IntKind.u8.wrap (n.val:Int))).toUInt8=hx (UInt8.ofNat n.val):=by decide +kernel
theorem Rf (c:UInt8):Lib.indexByte ([48,49,50,51,52,53,54,55,56,57,97,98,99,100,101,102]:List UInt8) (Int.toNat (IntKind.u8.wrap (c.toNat:Int))).toUInt8=hx c:=by
 have h:=hexI ⟨c.toNat,Im c⟩;rw [h];simp
theorem Ly (c:UInt8):-1≤hx c∧hx c≤15:=by
 unfold hx isD;split
 ·rename_i h; simp at h; omega
 ·split <;> omega
theorem Pe (K:Nat) (src:List UInt8) (i:Nat) (hi:i < 9000000000) :
  D2 K ⟨src,(i:Int)⟩=some (match src.drop i with
   | []=>(0,4,⟨src,(i:Int)⟩)
   | c :: _=>if hx c < 0 then (0,3,⟨src,((i+1:Nat):Int)⟩) else (hx c,0,⟨src,((i+1:Nat):Int)⟩)):=by
 unfold D2;rw [Ih _ _ _ (by omega),Option.bind_some];cases hs:src.drop i with
 | nil=>simp [hd]
 | cons c r =>
  simp only [show hd (c :: r)=(c.toNat:Int) from rfl,Rf,I6 (show i < 9223372036854775807 by omega)];rw [if_neg (by omega)];by_cases h:hx c < 0
  ·rw [if_pos h,if_pos h]
  ·rw [if_neg h,if_neg h]
theorem ofNat_toNat (c:UInt8):UInt8.ofNat c.toNat=c:=UInt8.ofNat_toNat
theorem mapid (l:List UInt8):l.map (fun b=>b)=l:=List.map_id _
def okT (src:List UInt8) (i:Nat) (r:Except Int (List UInt8×List UInt8)) (x:Option (T5 (Aq×Int×Aw) Unit)):Prop :=
 match r with
 | .ok (t,rest)=>∃ j:Nat,i < j∧j≤src.length∧rest=src.drop j∧x=some (.done (⟨4,0,t,0⟩,0,⟨src,(j:Int)⟩))
 | .error e=>e≠0∧∃ t q,x=some (.done (t,e,q))
theorem okT.err {src:List UInt8} {i:Nat} {e:Int} {t:Aq} {q:Aw} (h:e≠0):okT src i (.error e) (some (.done (t,e,q))):=⟨h,t,q,rfl⟩
theorem okT.ok {src:List UInt8} {i j:Nat} {t:List UInt8} (h1:i < j) (h2:j≤src.length):okT src i (.ok (t,src.drop j)) (some (.done (⟨4,0,t,0⟩,0,⟨src,(j:Int)⟩))):=⟨j,h1,h2,rfl,rfl⟩
theorem okT.le {src:List UInt8} {i i':Nat} {r:Except Int (List UInt8×List UInt8)} {x:Option (T5 (Aq×Int×Aw) Unit)} (h:okT src i' r x) (hi:i≤i'):okT src i r x:=by
 unfold okT at h ⊢;split at h
 ·obtain ⟨j,h1,h2⟩:=h; exact ⟨j,by omega,h2⟩
 ·exact h
theorem M2 (K:Nat) (src:List UInt8) (hsrc:src.length < 9000000):∀ (k i:Nat) (acc:List UInt8),(src.drop i).length < k→i≤src.length→acc.length+(src.drop i).length < 9000000 →
  okT src i (Gz acc (src.drop i)) (C5.l8 K k src (i:Int) acc)
 | 0,i,acc,h,_,_=>by omega
 | k+1,i,acc,h,hi,ha=>by
  unfold C5.l8;rw [Ih _ _ _ (by omega),Option.bind_some];cases hs:src.drop i with
  | nil =>
   unfold Gz;rw [if_pos (show hd ([]:List UInt8) < 0 by decide)];exact .err (by decide)
  | cons c r =>
   obtain ⟨_,hlt,hr⟩:=F2 _ _ c r c hs;rw [hs] at h ha;simp only [List.length_cons] at h ha;have ih:∀ (m:Nat) (s:List UInt8) (b:UInt8),src.drop m=s→i < m→m≤src.length→s.length < k→acc.length+1+s.length < 9000000→okT src i (Gz (acc++[b]) s) (C5.l8 K k src (m:Int) (acc++[b])):=fun m s b h1 h2 h3 h4 h5=>by
    subst h1;exact (M2 K src hsrc k m (acc++[b]) h4 h3 (by simp only [List.length_append,List.length_cons,List.length_nil]; omega)).le (by omega)
   unfold Gz;simp only [show hd (c :: r)=(c.toNat:Int) from rfl];rw [if_neg (show ¬ (c.toNat:Int) < 0 by omega),I6 (show i < 9223372036854775807 by omega)];by_cases h34:c.toNat=34
   ·rw [if_pos (show (c.toNat:Int)=34 by omega),if_pos h34];by_cases hm:4096 < acc.length
    ·rw [if_pos hm,if_pos (show (acc.length:Int) > 4096 by omega)];exact .err (by decide)
    ·rw [if_neg hm,if_neg (show ¬ (acc.length:Int) > 4096 by omega),mapid,← hr];exact .ok (by omega) (by omega)
   ·rw [if_neg (show ¬ (c.toNat:Int)=34 by omega),if_neg h34];by_cases h92:c.toNat=92
    ·rw [if_pos (show (c.toNat:Int)=92 by omega),if_pos h92];unfold D6;rw [Ih _ _ _ (by omega),Option.bind_some,hr];cases r with
     | nil =>
      rw [show hd ([]:List UInt8) = -1 from rfl,if_pos (show (-1:Int) = -1 from rfl),Option.bind_some];simp only;rw [if_pos (show (4:Int)≠0 by decide)];exact .err (by decide)
     | cons d r2 =>
      obtain ⟨_,hlt2,hr2⟩:=F2 _ _ d r2 d hr;simp only [List.length_cons] at h ha;have hdb:=Im d;simp only [show hd (d :: r2)=(d.toNat:Int) from rfl,I6 (show i+1 < 9223372036854775807 by omega)];rw [if_neg (show ¬ (d.toNat:Int) = -1 by omega)];have hb:(if (d.toNat:Int)=34 then some (decide ((d.toNat:Int)=34)) else some (decide ((d.toNat:Int)=92)):Option Bool)=some (decide (d.toNat=34∨d.toNat=92)):=by
       by_cases h1:d.toNat=34
       ·rw [if_pos (by omega)]; simp [h1]
       ·rw [if_neg (by omega)]; simp [h1]; omega
      rw [hb,Option.bind_some];have hroom:∀ b:UInt8,(acc.length+([b]:List UInt8).length) * 1≤140737488355328:=fun b=>by simp only [List.length_cons,List.length_nil]; omega
      by_cases hq:d.toNat=34∨d.toNat=92
      ·rw [if_pos (decide_eq_true hq),if_pos hq,Np,Option.bind_some];simp only;rw [if_neg (show ¬ (0:Int)≠0 by decide),if_pos (show 0≤(d.toNat:Int)∧(d.toNat:Int) < 256 by omega),if_pos (hroom _),Int.toNat_natCast,ofNat_toNat];exact ih _ _ d hr2 (by omega) (by omega) (by omega) (by omega)
      ·rw [if_neg (show ¬ (decide (d.toNat=34∨d.toNat=92)=true) by simpa using hq),if_neg hq];by_cases h110:d.toNat=110
       ·rw [if_pos (show (d.toNat:Int)=110 by omega),if_pos h110,Option.bind_some];simp only;rw [if_neg (show ¬ (0:Int)≠0 by decide),if_pos (show (0:Int)≤10∧(10:Int) < 256 by omega),if_pos (hroom _)];exact ih _ _ 10 hr2 (by omega) (by omega) (by omega) (by omega)
       ·rw [if_neg (show ¬ (d.toNat:Int)=110 by omega),if_neg h110];by_cases h116:d.toNat=116
        ·rw [if_pos (show (d.toNat:Int)=116 by omega),if_pos h116,Option.bind_some];simp only;rw [if_neg (show ¬ (0:Int)≠0 by decide),if_pos (show (0:Int)≤9∧(9:Int) < 256 by omega),if_pos (hroom _)];exact ih _ _ 9 hr2 (by omega) (by omega) (by omega) (by omega)
        ·rw [if_neg (show ¬ (d.toNat:Int)=116 by omega),if_neg h116];by_cases h120:d.toNat=120
         ·rw [if_pos (show (d.toNat:Int)=120 by omega),if_pos h120,Pe _ _ _ (by omega),Option.bind_some,hr2];cases r2 with
          | nil =>
           simp only;rw [if_pos (show (4:Int)≠0 by decide),Option.bind_some];simp only;rw [if_pos (show (4:Int)≠0 by decide)];exact .err (by decide)
          | cons x r3 =>
           obtain ⟨_,hlt3,hr3⟩:=F2 _ _ x r3 x hr2;simp only [List.length_cons] at h ha;simp only;by_cases hx0:hx x < 0
           ·rw [if_pos hx0,if_pos hx0];simp only;rw [if_pos (show (3:Int)≠0 by decide),Option.bind_some];simp only;rw [if_pos (show (3:Int)≠0 by decide)];exact .err (by decide)
           ·rw [if_neg hx0,if_neg hx0];simp only;rw [if_neg (show ¬ (0:Int)≠0 by decide),Pe _ _ _ (by omega),Option.bind_some,hr3];cases r3 with
            | nil =>
             simp only [Option.bind_some];rw [if_pos (show (4:Int)≠0 by decide)];exact .err (by decide)
            | cons y r4 =>
             obtain ⟨_,hlt4,hr4⟩:=F2 _ _ y r4 y hr3;simp only [List.length_cons] at h ha;simp only;by_cases hy0:hx y < 0
             ·rw [if_pos hy0,if_pos hy0];simp only [Option.bind_some];rw [if_pos (show (3:Int)≠0 by decide)];exact .err (by decide)
             ·rw [if_neg hy0,if_neg hy0];have b1:=Ly x;have b2:=Ly y;have e1:IntKind.i64.wrap (16 * hx x)=16 * hx x:=Eng.wrap_small (by omega) (by omega);have e2:IntKind.i64.wrap (16 * hx x+hx y)=16 * hx x+hx y:=Eng.wrap_small (by omega) (by omega);have e3:IntKind.u8.wrap (16 * hx x+hx y)=16 * hx x+hx y:=by
               obtain ⟨m,hm⟩:∃ m:Nat,16 * hx x+hx y=(m:Int):=⟨(16 * hx x+hx y).toNat,by omega⟩
               rw [hm];unfold IntKind.wrap;simp [IntKind.bits,IntKind.signed];omega
              simp only [Option.bind_some];rw [if_neg (show ¬ (0:Int)≠0 by decide),e1,e2,e3,if_pos (show 0≤16 * hx x+hx y∧16 * hx x+hx y < 256 by omega),if_pos (hroom _)];exact ih _ _ _ hr4 (by omega) (by omega) (by omega) (by omega)
         ·rw [if_neg (show ¬ (d.toNat:Int)=120 by omega),if_neg h120,Option.bind_some];simp only;rw [if_pos (show (3:Int)≠0 by decide)];exact .err (by decide)
    ·rw [if_neg (show ¬ (c.toNat:Int)=92 by omega),if_neg h92];have hcb:=Im c;have hb:(if (c.toNat:Int)≥32 then some (decide ((c.toNat:Int)≤126)) else some false:Option Bool)=some (decide (32≤c.toNat∧c.toNat≤126)):=by
      by_cases h1:32≤c.toNat
      ·rw [if_pos (by omega)]; simp [h1]; omega
      ·rw [if_neg (by omega)]; simp [h1]
     rw [hb,Option.bind_some];by_cases hp:32≤c.toNat∧c.toNat≤126
     ·rw [if_pos (decide_eq_true hp),if_pos hp,Np,if_pos (show 0≤(c.toNat:Int)∧(c.toNat:Int) < 256 by omega),if_pos (show (acc.length+([UInt8.ofNat (Int.toNat (c.toNat:Int))]:List UInt8).length) * 1≤140737488355328 by simp only [List.length_cons,List.length_nil]; omega),Int.toNat_natCast,ofNat_toNat];exact ih _ _ c hr (by omega) (by omega) (by omega) (by omega)
     ·rw [if_neg (show ¬ (decide (32≤c.toNat∧c.toNat≤126)=true) by simpa using hp),if_neg hp];exact .err (by decide)
def okS (src:List UInt8) (i:Nat) (r:Except Int (Aq×List UInt8)) (x:Option (Aq×Int×Aw)):Prop :=
 match r with
 | .ok (t,rest)=>∃ j:Nat,i < j∧j≤src.length∧rest=src.drop j∧x=some (t,0,⟨src,(j:Int)⟩)
 | .error e=>e≠0∧∃ t q,x=some (t,e,q)
theorem okS.err {src:List UInt8} {i:Nat} {e:Int} {t:Aq} {q:Aw} (h:e≠0):okS src i (.error e) (some (t,e,q)):=⟨h,t,q,rfl⟩
theorem okS.ok {src:List UInt8} {i j:Nat} {t:Aq} {rest:List UInt8} (h1:i < j) (h2:j≤src.length) (h3:rest=src.drop j):okS src i (.ok (t,rest)) (some (t,0,⟨src,(j:Int)⟩)):=⟨j,h1,h2,h3,rfl⟩
theorem K1 {p:UInt8→Bool} {s:List UInt8} (h:F1 p s=true):0 <(s.takeWhile p).length:=by
 cases s with
 | nil=>cases h
 | cons c r=>rw [List.takeWhile_cons,if_pos (show p c=true from h)]; simp
theorem Nq (src:List UInt8) (p:UInt8→Bool) (i:Nat):(src.drop i).dropWhile p=src.drop (i+((src.drop i).takeWhile p).length):=by
 rw [M0,List.drop_drop]
theorem Qm {K:Nat} {src:List UInt8} {i:Nat} (hi:i≤src.length) (hK:src.length < K) (hK2:1000≤K) (hb:src.length+K < 9000000) (h:F1 isL (src.drop i)=true):okS src i (Pq (src.drop i)) (D7 K ⟨src,(i:Int)⟩):=by
 have hp:0 <((src.drop i).takeWhile isW).length:=K1 (by
  cases hs:src.drop i with
  | nil=>rw [hs] at h; cases h
  | cons c r=>rw [hs] at h; exact Bool.or_eq_true_iff.2 (.inl h))
 have hbd:=G9 src isW i hi;unfold D7 Pq;rw [N4 hi hK (by omega),Option.bind_some];simp only;by_cases h1:64 <((src.drop i).takeWhile isW).length
 ·rw [if_pos h1,if_pos (show (((src.drop i).takeWhile isW).length:Int) > 64 by omega)];exact .err (by decide)
 ·rw [if_neg h1,if_neg (show ¬ (((src.drop i).takeWhile isW).length:Int) > 64 by omega),Ml hK2,Option.bind_some,Nq];by_cases hk:isK ((src.drop i).takeWhile isW)=true
  ·rw [if_pos hk,if_pos hk]; exact .ok (by omega) hbd rfl
  ·rw [if_neg hk,if_neg hk]; exact .ok (by omega) hbd rfl
theorem Og {K:Nat} {src:List UInt8} {i:Nat} (hi:i≤src.length) (hK:src.length < K) (hb:src.length+K < 9000000) (h:F1 isD (src.drop i)=true):okS src i (P2 (src.drop i)) (D3 K ⟨src,(i:Int)⟩):=by
 have hp:0 <((src.drop i).takeWhile isD).length:=K1 h;have hbd:=G9 src isD i hi;unfold D3 P2;rw [N9 hi hK (by omega),Option.bind_some];simp only;have e0:((src.drop i).takeWhile isD).getD (Int.toNat 0) 0=(src.drop i).headD 0:=by
  cases hs:src.drop i with
  | nil=>rfl
  | cons c r=>rw [hs] at h; rw [List.takeWhile_cons,if_pos (show isD c=true from h)]; rfl
 have hpk:Cc K ⟨src,((i+((src.drop i).takeWhile isD).length:Nat):Int)⟩ 0=some (hd ((src.drop i).dropWhile isD)):=by
  rw [Ih _ _ _ (by omega),Nq]
 rw [hpk,Option.bind_some,Iw,Option.bind_some];have e48:((((src.drop i).headD 0).toNat:Int)=48)↔F1 (fun c=>decide (c.toNat=48)) (src.drop i)=true:=by
  cases hs:src.drop i with
  | nil=>rw [hs] at h; cases h
  | cons c r=>simp [F1]; omega
 have hmid:((if (((src.drop i).takeWhile isD).length:Int) > 1 then (if (0:Int) <(((src.drop i).takeWhile isD).length:Int) then (if ((((src.drop i).takeWhile isD).getD (Int.toNat 0) 0).toNat:Int)=48 then some (T5.done ((⟨0,0,[],0⟩:Aq),(3:Int),(⟨src,((i+((src.drop i).takeWhile isD).length:Nat):Int)⟩:Aw))) else (if F1 isL ((src.drop i).dropWhile isD)=true then some (T5.done ((⟨0,0,[],0⟩:Aq),(3:Int),(⟨src,((i+((src.drop i).takeWhile isD).length:Nat):Int)⟩:Aw))) else some (T5.go ()))) else none) else (if F1 isL ((src.drop i).dropWhile isD)=true then some (T5.done ((⟨0,0,[],0⟩:Aq),(3:Int),(⟨src,((i+((src.drop i).takeWhile isD).length:Nat):Int)⟩:Aw))) else some (T5.go ()))):Option (T5 (Aq×Int×Aw) Unit))=if L5 (src.drop i)=true then some (T5.done ((⟨0,0,[],0⟩:Aq),(3:Int),(⟨src,((i+((src.drop i).takeWhile isD).length:Nat):Int)⟩:Aw))) else some (T5.go ()):=by
  rw [e0];unfold L5;by_cases h1:1 <((src.drop i).takeWhile isD).length
  ·rw [if_pos (show (((src.drop i).takeWhile isD).length:Int) > 1 by omega),if_pos (show (0:Int) <(((src.drop i).takeWhile isD).length:Int) by omega)];by_cases h2:F1 (fun c=>decide (c.toNat=48)) (src.drop i)=true
   ·rw [if_pos (e48.2 h2)]; simp [h1,h2]
   ·rw [if_neg (fun e=>h2 (e48.1 e))]; simp [h1,h2]
  ·rw [if_neg (show ¬ (((src.drop i).takeWhile isD).length:Int) > 1 by omega)]; simp [h1]
 rw [hmid];by_cases hbad:L5 (src.drop i)=true
 ·rw [if_pos hbad,if_pos hbad];exact .err (by decide)
 ·rw [if_neg hbad,if_neg hbad];simp only [obind];rw [if_pos (show ((src.drop i).takeWhile isD).length≤281474976710656 by omega),Nq];by_cases hpi:Jz ((src.drop i).takeWhile isD)=true
  ·rw [if_pos hpi,if_pos hpi];exact .ok (by omega) hbd rfl
  ·rw [if_neg hpi,if_neg hpi];exact .err (by decide)
theorem Pj (n:Nat) (m:Int):(Option.bind ((if (n:Int)=61 then some (decide ((n:Int)=61)) else (if (n:Int)=60 then some (decide ((n:Int)=60)) else (if (n:Int)=62 then some (decide ((n:Int)=62)) else some (decide ((n:Int)=33))))):Option Bool) (fun a=>(if a=true then (Option.bind (some m) (fun a2=>(if a2=61 then some (2:Int) else (if (n:Int)≠33 then some 1 else some 0)))) else (if (n:Int)=40 then some 1 else (if (n:Int)=41 then some 1 else (if (n:Int)=123 then some 1 else (if (n:Int)=125 then some 1 else (if (n:Int)=91 then some 1 else (if (n:Int)=93 then some 1 else (if (n:Int)=44 then some 1 else (if (n:Int)=59 then some 1 else (if (n:Int)=46 then some 1 else (if (n:Int)=58 then some 1 else (if (n:Int)=43 then some 1 else (if (n:Int)=45 then some 1 else (if (n:Int)=42 then some 1 else (if (n:Int)=47 then some 1 else (if (n:Int)=37 then some 1 else some 0))))))))))))))))))=some (((if n∈sg2 then (if m=61 then 2 else if n≠33 then 1 else 0) else if n∈sg1 then 1 else 0:Nat)):Int):=by
 have e:∀ k:Nat,((n:Int)=(k:Int))↔n=k:=fun k=>by omega
 by_cases h2:n∈sg2
 ·rw [if_pos h2];simp only [sg2,List.mem_cons,List.not_mem_nil,or_false] at h2;by_cases hm:m=61
  ·rcases h2 with rfl | rfl | rfl | rfl <;> simp [hm]
  ·rcases h2 with rfl | rfl | rfl | rfl <;> simp [hm]
 ·rw [if_neg h2];by_cases h1:n∈sg1
  ·rw [if_pos h1];simp only [sg1,List.mem_cons,List.not_mem_nil,or_false] at h1;rcases h1 with rfl | rfl | rfl | rfl | rfl | rfl | rfl | rfl | rfl | rfl | rfl | rfl | rfl | rfl | rfl <;> simp
  ·rw [if_neg h1];simp only [sg1,sg2,List.mem_cons,List.not_mem_nil,or_false,not_or] at h1 h2;obtain ⟨a1,a2,a3,a4⟩:=h2;obtain ⟨b1,b2,b3,b4,b5,b6,b7,b8,b9,b10,b11,b12,b13,b14,b15⟩:=h1;rw [if_neg (by omega),if_neg (by omega),if_neg (by omega),Option.bind_some,if_neg (show ¬ (decide ((n:Int)=33)=true) by simp; omega)]
   repeat rw [if_neg (by omega)]
   rfl
theorem Qk (s:List UInt8):F4 s≤s.length:=by
 cases s with
 | nil=>simp [F4]
 | cons c r =>
  rw [show F4 (c :: r)=(if c.toNat∈sg2 then (if hd r=61 then 2 else if c.toNat≠33 then 1 else 0) else if c.toNat∈sg1 then 1 else 0) from rfl,List.length_cons];by_cases h2:c.toNat∈sg2
  ·rw [if_pos h2];by_cases h3:hd r=61
   ·rw [if_pos h3];cases r with
    | nil=>cases h3
    | cons d r=>simp
   ·rw [if_neg h3];by_cases h4:c.toNat≠33
    ·rw [if_pos h4]; omega
    ·rw [if_neg h4]; omega
  ·rw [if_neg h2];by_cases h4:c.toNat∈sg1
   ·rw [if_pos h4]; omega
   ·rw [if_neg h4]; omega
theorem Q1 {K:Nat} {src:List UInt8} {i:Nat} (hK:src.length < K) (hb:src.length+K < 9000000) (hne:i < src.length):okS src i (if F4 (src.drop i)=0 then .error 3 else .ok (⟨5,0,(src.drop i).take (F4 (src.drop i)),0⟩,(src.drop i).drop (F4 (src.drop i)))) (Eb K ⟨src,(i:Int)⟩):=by
 have hle:=Qk (src.drop i);rw [List.length_drop] at hle;unfold Eb;rw [Ih _ _ _ (by omega),Option.bind_some,peek1 _ _ _ (by omega)];obtain ⟨c,r,hs⟩:∃ c r,src.drop i=c :: r:=⟨_,_,List.drop_eq_getElem_cons hne⟩
 obtain ⟨_,_,hr⟩:=F2 _ _ c r c hs;rw [hr,show hd (src.drop i)=(c.toNat:Int) by rw [hs]; rfl,Pj,Option.bind_some];have e:(if c.toNat∈sg2 then (if hd r=61 then 2 else if c.toNat≠33 then 1 else 0) else if c.toNat∈sg1 then 1 else 0:Nat)=F4 (src.drop i):=by rw [hs]; rfl
 rw [e];simp only;by_cases h0:F4 (src.drop i)=0
 ·rw [if_pos h0,h0];exact .err (by decide)
 ·rw [if_neg h0,if_neg (show ¬ ((F4 (src.drop i):Nat):Int)=0 by omega),Ry (show i+F4 (src.drop i)≤9223372036854775807 by omega),if_pos (show (0:Int)≤(i:Int)∧(i:Int)≤((i+F4 (src.drop i):Nat):Int)∧((i+F4 (src.drop i):Nat):Int)≤(src.length:Int) by omega)];have e2:slc src (i:Int) ((i+F4 (src.drop i):Nat):Int)=(src.drop i).take (F4 (src.drop i)):=by
   unfold slc;rw [Int.toNat_natCast,Int.toNat_natCast,show i+F4 (src.drop i) - i=F4 (src.drop i) by omega]
  rw [e2];exact .ok (by omega) (by omega) (by rw [List.drop_drop])
theorem Q9 {K:Nat} {src:List UInt8} {i:Nat} (hK:src.length < K) (hb:src.length+K < 9000000) (hh:hd (src.drop i)=34):okS src i (match Gz [] (src.drop i).tail with | .ok (t,r)=>.ok (⟨4,0,t,0⟩,r) | .error e=>.error e) (C5 K ⟨src,(i:Int)⟩):=by
 obtain ⟨c,r,hs⟩:∃ c r,src.drop i=c :: r:=by
  cases hs:src.drop i with
  | nil=>rw [hs] at hh; cases hh
  | cons c r=>exact ⟨c,r,rfl⟩
 obtain ⟨_,hlt,hr⟩:=F2 _ _ c r c hs;have ht:=M2 K src (by omega) K (i+1) [] (by simp; omega) (by omega) (by simp; omega);rw [hs,List.tail_cons];rw [hr] at ht;unfold C5;rw [I6 (by omega)];revert ht;unfold okT;cases Gz [] r with
 | error e =>
  rintro ⟨h1,t,q,h2⟩;rw [show ((i+1:Nat):Int)=((i+1:Nat):Int) from rfl] at h2;simp only [h2,obind];exact .err h1
 | ok p =>
  obtain ⟨t,rest⟩:=p;rintro ⟨j,h1,h2,h3,h4⟩;simp only [h4,obind];exact .ok (by omega) h2 h3
theorem K4 {K:Nat} {src:List UInt8} {i:Nat} (hi:i≤src.length) (hK:src.length < K) (hK2:1000≤K) (hb:src.length+K < 9000000) (hne:i < src.length):okS src i (H7 (src.drop i)) (Ea K ⟨src,(i:Int)⟩):=by
 have eta:∀ x:Option (Aq×Int×Aw),(Option.bind x fun (a,b,c)=>some (a,b,c))=x:=fun x=>by cases x <;> rfl
 unfold Ea H7;rw [Ih _ _ _ (by omega),Option.bind_some,Iw,Option.bind_some,J4,Option.bind_some];simp only [eta];by_cases h1:F1 isL (src.drop i)=true
 ·rw [if_pos h1,if_pos h1]; exact Qm hi hK hK2 hb h1
 ·rw [if_neg h1,if_neg h1];by_cases h2:F1 isD (src.drop i)=true
  ·rw [if_pos h2,if_pos h2]; exact Og hi hK hb h2
  ·rw [if_neg h2,if_neg h2];by_cases h3:hd (src.drop i)=34
   ·rw [if_pos h3,if_pos h3]; exact Q9 hK hb h3
   ·rw [if_neg h3,if_neg h3]; exact Q1 hK hb hne
end Go.Proofs.YtifjagfmfkemmaaGreatDoor
