import Derived.Test.YtifjagfmfkemmaaGreatDoorLw5
set_option linter.unusedVariables false
set_option linter.unusedSimpArgs false
set_option maxHeartbeats 4000000
namespace Go.Proofs.YtifjagfmfkemmaaGreatDoor
open Eng Go
def Brk (y:List UInt8):Prop:=F1 isW y=false∧hd y≠61
theorem Brk.L {y:List UInt8} (h:Brk y):F1 isL y=false:=by
 cases y with
 | nil=>rfl
 | cons c r =>
  have h1:isW c=false:=h.1;unfold isW at h1;show isL c=false;cases hL:isL c with
  | false=>rfl
  | true=>rw [hL] at h1; simp at h1
theorem Brk.D {y:List UInt8} (h:Brk y):F1 isD y=false:=by
 cases y with
 | nil=>rfl
 | cons c r =>
  have h1:isW c=false:=h.1;unfold isW at h1;show isD c=false;cases hL:isD c with
  | false=>rfl
  | true=>rw [hL] at h1; simp at h1
theorem Mk {p:UInt8→Bool} {y:List UInt8} (h:F1 p y=false):∀ s:List UInt8,(s++y).takeWhile p=s.takeWhile p∧(s++y).dropWhile p=s.dropWhile p++y
 | []=>by
  cases y with
  | nil=>exact ⟨rfl,rfl⟩
  | cons c r =>
   have h1:p c=false:=h;simp [h1]
 | c :: r=>by
  obtain ⟨h1,h2⟩:=Mk h r;by_cases hc:p c=true
  ·simp [hc,h1,h2]
  ·simp [hc]
theorem Jo {p:UInt8→Bool} {s y:List UInt8} (h:F1 p y=false):F1 p (s++y)=F1 p s:=by
 cases s with
 | nil=>exact h
 | cons c r=>rfl
theorem Oz (y:List UInt8) (acc s:List UInt8):∀ t r,Gz acc s=.ok (t,r)→Gz acc (s++y)=.ok (t,r++y):=by
 fun_induction Gz acc s <;> intro t r h
 all_goals first
  |(cases h; done)
  |(cases h; simp only [List.cons_append]; unfold Gz; simp_all; done)
  |(rename_i ih; have h':=ih t r h; simp only [List.cons_append]; unfold Gz; simp_all; done)
  |(rename_i ih; have h':=ih t r h; simp only [List.cons_append]; unfold Gz; simp_all; rw [if_neg (by omega),if_neg (by omega)])
theorem Qt {s y rest:List UInt8} {t:Aq} (hy:Brk y) (h:H7 s=.ok (t,rest)) (hs:s≠[]):H7 (s++y)=.ok (t,rest++y):=by
 unfold H7 at h ⊢;rw [Jo hy.L,Jo hy.D];by_cases h1:F1 isL s=true
 ·rw [if_pos h1] at h ⊢;unfold Pq at h ⊢;obtain ⟨e1,e2⟩:=Mk hy.1 s;rw [e1,e2];split at h
  ·cases h
  ·rename_i h2;rw [if_neg h2]; cases h; rfl
 ·rw [if_neg h1] at h ⊢;by_cases h2:F1 isD s=true
  ·rw [if_pos h2] at h ⊢;unfold P2 at h ⊢;obtain ⟨e1,e2⟩:=Mk hy.D s;have hb:L5 (s++y)=L5 s:=by
    unfold L5;rw [e1,e2,Jo hy.L];cases s with
    | nil=>exact absurd rfl hs
    | cons c r=>rfl
   rw [hb,e1,e2];split at h
   ·cases h
   ·rename_i h3;rw [if_neg h3];split at h
    ·rename_i h4;rw [if_pos h4]; cases h; rfl
    ·cases h
  ·rw [if_neg h2] at h ⊢;have hh:hd (s++y)=hd s:=by
    cases s with
    | nil=>exact absurd rfl hs
    | cons c r=>rfl
   rw [hh];by_cases h3:hd s=34
   ·rw [if_pos h3] at h ⊢;have ht:(s++y).tail=s.tail++y:=by
     cases s with
     | nil=>exact absurd rfl hs
     | cons c r=>rfl
    rw [ht];cases hl:Gz [] s.tail with
    | error e=>rw [hl] at h; cases h
    | ok p =>
     obtain ⟨x,z⟩:=p;rw [hl] at h;cases h;rw [Oz y _ _ _ _ hl]
   ·rw [if_neg h3] at h ⊢;have hn:F4 (s++y)=F4 s∧(F4 s≤s.length):=by
     cases s with
     | nil=>exact absurd rfl hs
     | cons c r =>
      have hdef:∀ r',F4 (c :: r')=(if c.toNat∈sg2 then (if hd r'=61 then 2 else if c.toNat≠33 then 1 else 0) else if c.toNat∈sg1 then 1 else 0):=fun _=>rfl
      rw [List.cons_append,hdef,hdef]
      have:(hd (r++y)=61)=(hd r=61):=by
       cases r with
       | nil =>
        have:=hy.2
        rw [List.nil_append];exact propext ⟨fun h=>absurd h this,fun h=>by simp [hd] at h⟩
       | cons d r=>rfl
      simp only [this];refine ⟨trivial,?_⟩;simp only [List.length_cons];split
      ·split
       ·rename_i h61;cases r with
        | nil=>simp [hd] at h61
        | cons d r=>simp
       ·split <;> omega
      ·split <;> omega
    rw [hn.1];split at h
    ·cases h
    ·rename_i h4;rw [if_neg h4];cases h;rw [List.take_append_of_le_length hn.2,List.drop_append_of_le_length hn.2]
theorem I7 (y:List UInt8):∀ (s:List UInt8),s.dropWhile isB=[]→∀ (f i:Nat) (acc:List Aq),Fq (f+1) (s++y) i acc=Fq (f+1) y (i+s.length) acc
 | [],h,f,i,acc=>rfl
 | c :: r,h,f,i,acc=>by
  by_cases hc:isB c=true
  ·rw [List.dropWhile_cons,if_pos hc] at h;rw [List.cons_append,I4 f c _ i acc hc,I7 y r h f (i+1) acc,List.length_cons]
   congr 1; omega
  ·rw [List.dropWhile_cons,if_neg hc] at h; cases h
theorem Jw {y:List UInt8} (hy:Brk y):∀ (f:Nat) (s:List UInt8) (i:Nat) (acc l:List Aq),Fq f s i acc=.ok l→s.length < 4000000→∃ b e,l=acc++b++[e]∧e.Kind=0∧(∀ t∈b,t.Kind≠0) ∧
  ∀ (f' i':Nat) (acc':List Aq),s.length+y.length < f'→∃ b' f'' i'',Fq f' (s++y) i' acc'=Fq f'' y i'' (acc'++b')∧y.length < f''∧Zq b b'
 | 0,s,i,acc,l,h,_=>by cases h
 | f+1,s,i,acc,l,h,hb=>by
  unfold Fq at h;cases hs:s.dropWhile isB with
  | nil =>
   rw [hs] at h;cases h;refine ⟨[],⟨0,((i+s.length:Nat):Int),[],0⟩,by simp,rfl,by simp,fun f' i' acc' hf=>?_⟩;obtain ⟨f',rfl⟩:∃ j,f'=j+1:=⟨f' - 1,by omega⟩
   exact ⟨[],f'+1,_,by rw [I7 y s hs f' i' acc',List.append_nil],by omega,rfl⟩
  | cons c r =>
   rw [hs] at h;simp only at h;cases hl:H7 (c :: r) with
   | error e=>rw [hl] at h; cases h
   | ok p =>
    obtain ⟨t,rest⟩:=p;rw [hl] at h;obtain ⟨n,h1,h2,h3,h4,h5⟩:=J0 hs hl hb;obtain ⟨b,e,hl1,hl2,hl3,hl4⟩:=Jw hy f rest _ _ l h (by omega);obtain ⟨k1,k2⟩:=Nk hl;refine ⟨⟨t.Kind,((i+(s.takeWhile isB).length:Nat):Int),t.Text,t.Int⟩ :: b,e,by rw [hl1]; simp,hl2,?_,fun f' i' acc' hf=>?_⟩
    ·intro x hx;rcases List.mem_cons.1 hx with rfl | hx
     ·exact k2
     ·exact hl3 x hx
    obtain ⟨f',rfl⟩:∃ j,f'=j+1:=⟨f' - 1,by omega⟩
    have hcB:isB c=false:=by
     have:=List.head?_dropWhile_not isB s
     rw [hs] at this;simpa using this
    have e1:s++y=s.takeWhile isB++(c ::(r++y)):=by
     conv=>lhs; rw [Mn s c r hs]
     simp
    have hall:∀ x∈s.takeWhile isB,isB x=true:=H1 s isB;have ed:(s++y).dropWhile isB=c ::(r++y):=by
     rw [e1,List.dropWhile_append_of_pos hall,List.dropWhile_cons,if_neg (by rw [hcB]; decide)]
    have et:(s++y).takeWhile isB=s.takeWhile isB:=by
     rw [e1,List.takeWhile_append_of_pos hall,List.takeWhile_cons,if_neg (by rw [hcB]; decide),List.append_nil]
    have hl':=Qt hy hl (by simp);rw [List.cons_append] at hl';have hrest:rest.length+y.length < f':=by omega
    obtain ⟨b',f'',i'',g1,g2,g3⟩:=hl4 f' (i'+(s++y).length - (rest++y).length) (acc'++[⟨t.Kind,((i'+(s.takeWhile isB).length:Nat):Int),t.Text,t.Int⟩]) hrest;refine ⟨⟨t.Kind,((i'+(s.takeWhile isB).length:Nat):Int),t.Text,t.Int⟩ :: b',f'',i'',?_,g2,?_⟩
    ·rw [show acc'++(⟨t.Kind,((i'+(s.takeWhile isB).length:Nat):Int),t.Text,t.Int⟩:Aq) :: b'=acc'++[(⟨t.Kind,((i'+(s.takeWhile isB).length:Nat):Int),t.Text,t.Int⟩:Aq)]++b' by simp,← g1]
     conv=>lhs; unfold Fq
     rw [ed,et];simp only [hl']
    ·show List.map zt _=List.map zt _;rw [List.map_cons,List.map_cons,show List.map zt b=List.map zt b' from g3]; rfl
end Go.Proofs.YtifjagfmfkemmaaGreatDoor
