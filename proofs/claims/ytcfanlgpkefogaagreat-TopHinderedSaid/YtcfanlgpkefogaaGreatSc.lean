import Derived.Test.YtcfanlgpkefogaaGreatSb
namespace Go.Proofs.YtcfanlgpkefogaaGreat
open Go.RowKit
namespace V
noncomputable def Crc:Bie:=fun k=>bif Nat.beq k 4 then some (Bg5 Bn9 Bve C1u) else none
def cmO (g:Bny.T):Cm:=⟨g.2.1.1.1,g.2.1.2.1.1,g.2.1.2.1.2.1,g.2.1.2.2.1.1,g.2.1.2.2.2.1.1,g.2.1.2.2.2.2.1.1,g.2.1.2.2.2.2.2.2.2.1.1⟩
def ssO (g:Bny.T):SS:=(g.2.1.2.2.2.2.2.1.1,g.2.1.2.2.2.2.2.2.1.1)
def C5y (n j:Int) (c:Cm) (s:SS):Tree (Bny.T⊕Bdx Bxv) :=
 bif decide (j<n) then
  .need (Bij [Bkx]) (bif okI j (W64 (j+1)) c s then
   bif okS (inR c.l c.re c.dr j.toNat (c.m-W64 (j+1)).toNat (W64 (j+1)).toNat s) then .need (Bij [Bkx]) (.leaf (.inl (Og n (W64 (j+1)) c (C1s (inR c.l c.re c.dr j.toNat (c.m-W64 (j+1)).toNat (W64 (j+1)).toNat s)))))
   else .need (Bij [Bz3]) (.leaf (.inr ⟨.ret,Rs 4⟩)) else .fail)
 else .need (Bij [Bkx]) (.leaf (.inr ⟨.exit 0,Og n j c s⟩))
theorem Dfh (g:Bny.T):evC Tryz.prog (Bcr C1b 7) C1b.pures 152 C1b.u Crc C5w (Bny.of g) (Bg4 Bny Bxv)=C5y g.1.2.2.1 g.1.2.2.2.1 (cmO g) (ssO g):=by kernel_rfl
def okO (n j:Int) (c:Cm) (s:SS):Bool:=decide (0≤j∧j≤n∧n=c.m∧c.m=(c.l.length:Int)∧c.l.length≤1000∧s.1.length=c.l.length∧s.2.length+(n-j).toNat*1000≤1000000)
def Czg (n j:Int) (c:Cm) (s:SS):Tree (Bdx Bxv) :=
 .br (okO n j c s) (.br (okS (Bfk c.l c.re c.dr (n-j).toNat j.toNat s)) (.leaf ⟨.exit 0,Og n n c (C1s (Bfk c.l c.re c.dr (n-j).toNat j.toNat s))⟩) (.leaf ⟨.ret,Rs 4⟩)) .fail
def Cal (g:Bny.T):Tree (Bdx Bxv):=Czg g.1.2.2.1 g.1.2.2.2.1 (cmO g) (ssO g)
theorem Bjp (l:List (TCT No)) (re dr:Int) (i:Nat) (s:SS):Bfk l re dr 0 i s=some s:=rfl
theorem Bhu (l:List (TCT No)) (re dr:Int) (f i:Nat) (s:SS):Bfk l re dr (f+1) i s=(inR l re dr i (l.length-(i+1)) (i+1) s).bind fun s'=>Bfk l re dr f (i+1) s':=rfl
theorem Czh {step:Bny.T→Tree (Bny.T⊕Bdx Bxv)} (hs:∀ n j c s,step (Og n j c s)=C5y n j c s) (R:Bdx Bxv→Prop) (n:Int) (c:Cm) (hn:n=c.m) (hm:c.m=(c.l.length:Int)) (hl:c.l.length≤1000) (f:Nat) :
  ∀ (j:Int) (s:SS),0≤j→n-j=f→s.1.length=c.l.length→s.2.length+f*1000≤1000000→(okS (Bfk c.l c.re c.dr f j.toNat s)=true→R ⟨.exit 0,Og n n c (C1s (Bfk c.l c.re c.dr f j.toNat s))⟩) →
   (okS (Bfk c.l c.re c.dr f j.toNat s)=false→R ⟨.ret,Rs 4⟩)→Bwr Bny Bxv step R (f+1) (Og n j c s):=by
 induction f with
 | zero =>
  intro j s _ hk _ _ h1 _
  have e:j=n:=by omega
  subst e
  intro _
  rw [hs]
  unfold C5y
  rw [decide_eq_false (show ¬ j<j by omega)]
  exact ⟨Bdv _,fun _=>h1 rfl⟩
 | succ f ih =>
  intro j s hj hk hsl hsh h1 h2
  intro _
  rw [hs]
  unfold C5y
  rw [Bhu] at h1 h2
  have hjt:(j+1).toNat=j.toNat+1:=by omega
  have hmk:(c.m-(j+1)).toNat=c.l.length-(j.toNat+1):=by omega
  have hok:okI j (j+1) c s=true:=decide_eq_true ⟨hj,by omega,by omega,by omega,hm,hl,hsl,by omega⟩
  rw [show W64 (j+1)=j+1 from Fp (by omega) (by omega),decide_eq_true (show j<n by omega),hok,hjt,hmk]
  refine ⟨Bdv _,?_⟩
  cases he:inR c.l c.re c.dr j.toNat (c.l.length-(j.toNat+1)) (j.toNat+1) s with
  | none =>
   rw [he] at h2
   exact ⟨Bdv _,fun _=>h2 rfl⟩
  | some s' =>
   rw [he,Option.bind_some] at h1 h2
   have hlen:=Cfa _ _ _ _ he
   refine ⟨Bdv _,ih (j+1) s' (by omega) (by omega) (hlen.1.trans hsl) (by omega) ?_ ?_⟩
   ·rw [hjt];exact h1
   ·rw [hjt];exact h2
theorem Dfi:Baw Tryz.prog 152 C5w (Bg5 Bny Bxv Cal):=by
 refine Boa puSe_ok 7 152 Crc ?_ Bny Bxv (fun e=>by cases e <;> first | exact Nat.le_refl _ | exact (show 900≤1000 by omega)) Cal (fun g=>C5y g.1.2.2.1 g.1.2.2.2.1 (cmO g) (ssO g)) Dfh ?_
 ·intro d hd f hf
  have hl:Bak C5w=[Bz4]:=by kernel_rfl
  rw [hl,List.mem_singleton] at hd
  subst hd
  have hk:keyOf Bz4=4:=by kernel_rfl
  rw [hk] at hf
  have:Crc 4=some (Bg5 Bn9 Bve C1u):=rfl
  rw [this,Option.some.injEq] at hf
  subst hf
  exact Dfg
 intro g R _ hf
 obtain ⟨hf,h0⟩:=hf
 cases hc:okO g.1.2.2.1 g.1.2.2.2.1 (cmO g) (ssO g) with
 | false=>exact (h0 hc).elim
 | true =>
  obtain ⟨h1,h2⟩:=hf hc
  obtain ⟨k1,k2,k3,k4,k5,k6,k7⟩:=of_decide_eq_true hc
  exact ⟨_,Czh (fun _ _ _ _=>rfl) R g.1.2.2.1 (cmO g) k3 k4 k5 (g.1.2.2.1-g.1.2.2.2.1).toNat g.1.2.2.2.1 (ssO g) k1 (Int.toNat_of_nonneg (Int.sub_nonneg.2 k2)).symm k6 k7 h1 h2⟩
theorem is_Settle:FnIs Tryz.prog (99,Tryz.f99):=⟨Tryz.func99,by kernel_rfl,by kernel_rfl⟩
theorem is_pairs:FnIs Tryz.prog (135,Tryz.f135):=⟨Tryz.func135,by kernel_rfl,by kernel_rfl⟩
theorem is_pairs1:FnIs Tryz.prog (152,Tryz.f152):=⟨Tryz.func152,by kernel_rfl,by kernel_rfl⟩
abbrev Czi:=TCTs [.sl Bat,.sl Bek,cI]
def Bbn (l:List (TCT No)) (s:List (TCT Bat)) (re dr:Int):Czi :=
 bif Bjd l s != 0 then ([],[],Bjd l s,()) else bif !Be3 re dr then ([],[],2,()) else
 bif okS (Bfk l re dr l.length 0 (s,[])) then ((C1s (Bfk l re dr l.length 0 (s,[]))).1,(C1s (Bfk l re dr l.length 0 (s,[]))).2,0,()) else ([],[],4,())
def plSet:List (Nat×PureT):=(134,C5t)::(126,Beb)::plBn
theorem puSet:Bcd Tryz.prog plSet:=puOk_cons is_lcheck.plain Cr9 (puOk_cons is_CheckBounce.plain Bjf puBn)
noncomputable def C5z:Ctx:=Bh4 Tryz.prog plSet [(99,Tryz.f99),(135,Tryz.f135),(152,Tryz.f152)] [((152,1),Bg5 Bny Bxv Cal)]
def Bpd (l:List (TCT No)) (s:List (TCT Bat)) (re dr:Int):Tree Czi :=
 bif Bjd l s != 0 then .leaf ([],[],Bjd l s,()) else bif okE (Be3 re dr)!=0 then .leaf ([],[],okE (Be3 re dr),()) else
 bif Bcs ([]:List (TCT Bat)) s 48 then
  .need (Bij [Bkx]) (bif okO (l.length:Int) 0 ⟨l,re,dr,[],[],0,(l.length:Int)⟩ (s,[]) then
   bif okS (Bfk l re dr ((l.length:Int)-0).toNat (0:Int).toNat (s,[])) then .leaf ((C1s (Bfk l re dr ((l.length:Int)-0).toNat (0:Int).toNat (s,[]))).1,(C1s (Bfk l re dr ((l.length:Int)-0).toNat (0:Int).toNat (s,[]))).2,0,()) else .leaf ([],[],4,()) else .fail) else .fail
theorem C60 (x:TCTs [.sl No,.sl Bat,Bbv]):Bcr C5z 7 (.fn 99) (Bdd [.sl No,.sl Bat,Bbv] x) Bbz 0 (Bh7 Tryz.prog [.sl Bat,.sl Bek,cI])=Bpd x.1 x.2.1 x.2.2.1.1 x.2.2.1.2.1:=by kernel_rfl
theorem Cam {l:List (TCT No)} {s:List (TCT Bat)} (h:Bjd l s=0):l.length≤8∧l.length=s.length∧(l.zip s).all Bnx=true:=by
 unfold Bjd at h
 cases h1:decide ((l.length:Int)>8) with
 | true=>rw [h1] at h;simp at h
 | false =>
  rw [h1,cond_false] at h
  cases h2:((l.length:Int)!=(s.length:Int)) with
  | true=>rw [h2] at h;simp at h
  | false =>
   rw [h2,cond_false] at h
   have k1:=of_decide_eq_false h1
   have k2:(l.length:Int)=(s.length:Int):=by simpa using h2
   refine ⟨by omega,by omega,?_⟩
   cases h3:(l.zip s).all Bnx with
   | true=>rfl
   | false=>rw [h3] at h;simp [okE] at h
theorem C61 (l:List (TCT No)) (s:List (TCT Bat)) (re dr:Int):(Bpd l s re dr).sat (fun y=>y=Bbn l s re dr):=by
 unfold Bpd Bbn
 cases hc:Bjd l s != 0 with
 | true=>exact Eq.refl _
 | false =>
  have hc':Bjd l s=0:=by simpa using hc
  obtain ⟨k1,k2,_⟩:=Cam hc'
  unfold okE
  cases hb:Be3 re dr with
  | false=>exact Eq.refl _
  | true =>
   have ha:Bcs ([]:List (TCT Bat)) s 48=true:=by
    rw [Bel];refine decide_eq_true ?_;simp only [List.length_nil];omega
   have ho:okO (l.length:Int) 0 ⟨l,re,dr,[],[],0,(l.length:Int)⟩ (s,[])=true:=decide_eq_true ⟨by omega,by omega,rfl,rfl,by show l.length≤1000;omega,k2.symm,by show 0+((l.length:Int)-0).toNat*1000≤1000000;omega⟩
   rw [ha,ho,show ((l.length:Int)-0).toNat=l.length by omega,show (0:Int).toNat=0 from rfl]
   refine ⟨Bdv _,?_⟩
   cases okS (Bfk l re dr l.length 0 (s,[])) <;> exact Eq.refl _
theorem C62:CtxOk C5z:=by
 refine Bca Bar puSet (fns_cons is_Settle (fns_cons is_pairs (fns_cons is_pairs1 V1))) ?_
 intro p hp d hd g hg
 simp only [List.mem_cons,List.not_mem_nil,or_false] at hp
 rcases hp with rfl | rfl | rfl
 ·simp only [Bc4] at hg
  rw [show Nat.beq 152 99=false from rfl,Bool.false_and] at hg
  cases hg
 ·simp only [Bc4] at hg
  rw [show Nat.beq 152 135=false from rfl,Bool.false_and] at hg
  cases hg
 ·have hl:Bak (bodyOf Tryz.f152)=[C5w,Bz4]:=by kernel_rfl
  simp only at hd hg
  rw [hl] at hd
  simp only [List.mem_cons,List.not_mem_nil,or_false] at hd
  rcases hd with rfl | rfl
  ·have hk:keyOf C5w=1:=by kernel_rfl
   rw [hk] at hg
   simp [Bc4] at hg
   subst hg
   exact Dfi
  ·have hk:keyOf Bz4=4:=by kernel_rfl
   rw [hk] at hg
   simp only [Bc4] at hg
   rw [show Nat.beq 1 4=false from rfl,Bool.and_false] at hg
   cases hg
abbrev C63:PureT:=Bbh [.sl No,.sl Bat,Bbv] [.sl Bat,.sl Bek,cI] (fun _=>true) (fun x=>((Bbn x.1 x.2.1 x.2.2.1.1 x.2.2.1.2.1).1,(Bbn x.1 x.2.1 x.2.2.1.1 x.2.2.1.2.1).2.1,(Bbn x.1 x.2.1 x.2.2.1.1 x.2.2.1.2.1).2.2.1,()))
theorem Crd:Bai Tryz.prog 99 C63:=Bbj C62 7 (fun x=>Bpd x.1 x.2.1 x.2.2.1.1 x.2.2.1.2.1) (fun x=>C60 x) fun _ _ _=>C61 _ _ _ _
end V
end Go.Proofs.YtcfanlgpkefogaaGreat
