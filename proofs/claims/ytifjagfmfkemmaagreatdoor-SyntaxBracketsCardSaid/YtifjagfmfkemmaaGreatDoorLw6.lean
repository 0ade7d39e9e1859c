import Derived.Test.YtifjagfmfkemmaaGreatDoorLw5
set_option linter.unusedVariables false
set_option linter.unusedSimpArgs false
set_option maxHeartbeats 4000000
namespace Go.Proofs.YtifjagfmfkemmaaGreatDoor
open Eng Go
def Brk (y:List UInt8):Prop:=Fq isW y=false∧hd y≠61
theorem Brk.L {y:List UInt8} (h:Brk y):Fq isL y=false:=by
 cases y with
 | nil=>rfl
 | cons c r =>
  have h1:isW c=false:=h.1;unfold isW at h1;show isL c=false;cases hL:isL c with
  | false=>rfl
  | true=>rw [hL] at h1; simp at h1
theorem Brk.D {y:List UInt8} (h:Brk y):Fq isD y=false:=by
 cases y with
 | nil=>rfl
 | cons c r =>
  have h1:isW c=false:=h.1;unfold isW at h1;show isD c=false;cases hL:isD c with
  | false=>rfl
  | true=>rw [hL] at h1; simp at h1
theorem K6 {p:UInt8→Bool} {y:List UInt8} (h:Fq p y=false):∀ s:List UInt8,(s++y).takeWhile p=s.takeWhile p∧(s++y).dropWhile p=s.dropWhile p++y
 | []=>by
  cases y with
  | nil=>exact ⟨rfl,rfl⟩
  | cons c r =>
   have h1:p c=false:=h;simp [h1]
 | c :: r=>by
  obtain ⟨h1,h2⟩:=K6 h r;by_cases hc:p c=true
  ·simp [hc,h1,h2]
  ·simp [hc]
theorem I5 {p:UInt8→Bool} {s y:List UInt8} (h:Fq p y=false):Fq p (s++y)=Fq p s:=by
 cases s with
 | nil=>exact h
 | cons c r=>rfl
theorem Mn (y:List UInt8) (acc s:List UInt8):∀ t r,F3 acc s=.ok (t,r)→F3 acc (s++y)=.ok (t,r++y):=by
 fun_induction F3 acc s <;> intro t r h
 all_goals first
  |(cases h; done)
  |(cases h; simp only [List.cons_append]; unfold F3; simp_all; done)
  |(rename_i ih; have h':=ih t r h; simp only [List.cons_append]; unfold F3; simp_all; done)
  |(rename_i ih; have h':=ih t r h; simp only [List.cons_append]; unfold F3; simp_all; rw [if_neg (by omega),if_neg (by omega)])
theorem N6 {s y rest:List UInt8} {t:Ap} (hy:Brk y) (h:Gw s=.ok (t,rest)) (hs:s≠[]):Gw (s++y)=.ok (t,rest++y):=by
 unfold Gw at h ⊢;rw [I5 hy.L,I5 hy.D];by_cases h1:Fq isL s=true
 ·rw [if_pos h1] at h ⊢;unfold L6 at h ⊢;obtain ⟨e1,e2⟩:=K6 hy.1 s;rw [e1,e2];split at h
  ·cases h
  ·rename_i h2;rw [if_neg h2]; cases h; rfl
 ·rw [if_neg h1] at h ⊢;by_cases h2:Fq isD s=true
  ·rw [if_pos h2] at h ⊢;unfold L1 at h ⊢;obtain ⟨e1,e2⟩:=K6 hy.D s;have hb:H9 (s++y)=H9 s:=by
    unfold H9;rw [e1,e2,I5 hy.L];cases s with
    | nil=>exact absurd rfl hs
    | cons c r=>rfl
   rw [hb,e1,e2];split at h
   ·cases h
   ·rename_i h3;rw [if_neg h3];split at h
    ·rename_i h4;rw [if_pos h4]; cases h; rfl
    ·cases h
  ·rw [if_neg h2] at h ⊢;have hh:hd (s++y)=hd s:=by
    cases s with
    | nil=>exact absurd rfl hs
    | cons c r=>rfl
   rw [hh];by_cases h3:hd s=34
   ·rw [if_pos h3] at h ⊢;have ht:(s++y).tail=s.tail++y:=by
     cases s with
     | nil=>exact absurd rfl hs
     | cons c r=>rfl
    rw [ht];cases hl:F3 [] s.tail with
    | error e=>rw [hl] at h; cases h
    | ok p =>
     obtain ⟨x,z⟩:=p;rw [hl] at h;cases h;rw [Mn y _ _ _ _ hl]
   ·rw [if_neg h3] at h ⊢;have hn:Fp (s++y)=Fp s∧(Fp s≤s.length):=by
     cases s with
     | nil=>exact absurd rfl hs
     | cons c r =>
      have hdef:∀ r',Fp (c :: r')=(if c.toNat∈sg2 then (if hd r'=61 then 2 else if c.toNat≠33 then 1 else 0) else if c.toNat∈sg1 then 1 else 0):=fun _=>rfl
      rw [List.cons_append,hdef,hdef]
      have:(hd (r++y)=61)=(hd r=61):=by
       cases r with
       | nil =>
        have:=hy.2
        rw [List.nil_append];exact propext ⟨fun h=>absurd h this,fun h=>by simp [hd] at h⟩
       | cons d r=>rfl
      simp only [this];refine ⟨trivial,?_⟩;simp only [List.length_cons];split
      ·split
       ·rename_i h61;cases r with
        | nil=>simp [hd] at h61
        | cons d r=>simp
       ·split <;> omega
      ·split <;> omega
    rw [hn.1];split at h
    ·cases h
    ·rename_i h4;rw [if_neg h4];cases h;rw [List.take_append_of_le_length hn.2,List.drop_append_of_le_length hn.2]
theorem Ie (y:List UInt8):∀ (s:List UInt8),s.dropWhile isB=[]→∀ (f i:Nat) (acc:List Ap),Ff (f+1) (s++y) i acc=Ff (f+1) y (i+s.length) acc
 | [],h,f,i,acc=>rfl
 | c :: r,h,f,i,acc=>by
  by_cases hc:isB c=true
  ·rw [List.dropWhile_cons,if_pos hc] at h;rw [List.cons_append,J3 f c _ i acc hc,Ie y r h f (i+1) acc,List.length_cons]
   congr 1; omega
  ·rw [List.dropWhile_cons,if_neg hc] at h; cases h
theorem Kd {y:List UInt8} (hy:Brk y):∀ (f:Nat) (s:List UInt8) (i:Nat) (acc l:List Ap),Ff f s i acc=.ok l→s.length < 4000000→∃ b e,l=acc++b++[e]∧e.Kind=0∧(∀ t∈b,t.Kind≠0) ∧
  ∀ (f' i':Nat) (acc':List Ap),s.length+y.length < f'→∃ b' f'' i'',Ff f' (s++y) i' acc'=Ff f'' y i'' (acc'++b')∧y.length < f''∧Zq b b'
 | 0,s,i,acc,l,h,_=>by cases h
 | f+1,s,i,acc,l,h,hb=>by
  unfold Ff at h;cases hs:s.dropWhile isB with
  | nil =>
   rw [hs] at h;cases h;refine ⟨[],⟨0,((i+s.length:Nat):Int),[],0⟩,by simp,rfl,by simp,fun f' i' acc' hf=>?_⟩;obtain ⟨f',rfl⟩:∃ j,f'=j+1:=⟨f' - 1,by omega⟩
   exact ⟨[],f'+1,_,by rw [Ie y s hs f' i' acc',List.append_nil],by omega,rfl⟩
  | cons c r =>
   rw [hs] at h;simp only at h;cases hl:Gw (c :: r) with
   | error e=>rw [hl] at h; cases h
   | ok p =>
    obtain ⟨t,rest⟩:=p;rw [hl] at h;obtain ⟨n,h1,h2,h3,h4,h5⟩:=Ir hs hl hb;obtain ⟨b,e,hl1,hl2,hl3,hl4⟩:=Kd hy f rest _ _ l h (by omega);obtain ⟨k1,k2⟩:=Ln hl;refine ⟨⟨t.Kind,((i+(s.takeWhile isB).length:Nat):Int),t.Text,t.Int⟩ :: b,e,by rw [hl1]; simp,hl2,?_,fun f' i' acc' hf=>?_⟩
    ·intro x hx;rcases List.mem_cons.1 hx with rfl | hx
     ·exact k2
     ·exact hl3 x hx
    obtain ⟨f',rfl⟩:∃ j,f'=j+1:=⟨f' - 1,by omega⟩
    have hcB:isB c=false:=by
     have:=List.head?_dropWhile_not isB s
     rw [hs] at this;simpa using this
    have e1:s++y=s.takeWhile isB++(c ::(r++y)):=by
     conv=>lhs; rw [Ku s c r hs]
     simp
    have hall:∀ x∈s.takeWhile isB,isB x=true:=Gb s isB;have ed:(s++y).dropWhile isB=c ::(r++y):=by
     rw [e1,List.dropWhile_append_of_pos hall,List.dropWhile_cons,if_neg (by rw [hcB]; decide)]
    have et:(s++y).takeWhile isB=s.takeWhile isB:=by
     rw [e1,List.takeWhile_append_of_pos hall,List.takeWhile_cons,if_neg (by rw [hcB]; decide),List.append_nil]
    have hl':=N6 hy hl (by simp);rw [List.cons_append] at hl';have hrest:rest.length+y.length < f':=by omega
    obtain ⟨b',f'',i'',g1,g2,g3⟩:=hl4 f' (i'+(s++y).length - (rest++y).length) (acc'++[⟨t.Kind,((i'+(s.takeWhile isB).length:Nat):Int),t.Text,t.Int⟩]) hrest;refine ⟨⟨t.Kind,((i'+(s.takeWhile isB).length:Nat):Int),t.Text,t.Int⟩ :: b',f'',i'',?_,g2,?_⟩
    ·rw [show acc'++(⟨t.Kind,((i'+(s.takeWhile isB).length:Nat):Int),t.Text,t.Int⟩:Ap) :: b'=acc'++[(⟨t.Kind,((i'+(s.takeWhile isB).length:Nat):Int),t.Text,t.Int⟩:Ap)]++b' by simp,← g1]
     conv=>lhs; unfold Ff
     rw [ed,et];simp only [hl']
    ·show List.map zt _=List.map zt _;rw [List.map_cons,List.map_cons,show List.map zt b=List.map zt b' from g3]; rfl
end Go.Proofs.YtifjagfmfkemmaaGreatDoor
