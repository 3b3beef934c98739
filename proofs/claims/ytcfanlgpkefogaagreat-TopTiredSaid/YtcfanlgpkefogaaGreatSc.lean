import Derived.Test.YtcfanlgpkefogaaGreatSb
namespace Go.Proofs.YtcfanlgpkefogaaGreat
open Go.RowKit
namespace V
noncomputable def Clr:Bj2:=fun k=>bif Nat.beq k 4 then some (Bhr Bma Bt8 Bz3) else none
def cmO (g:Bmw.T):Cm:=⟨g.2.1.1.1,g.2.1.2.1.1,g.2.1.2.1.2.1,g.2.1.2.2.1.1,g.2.1.2.2.2.1.1,g.2.1.2.2.2.2.1.1,g.2.1.2.2.2.2.2.2.2.1.1⟩
def ssO (g:Bmw.T):SS:=(g.2.1.2.2.2.2.2.1.1,g.2.1.2.2.2.2.2.2.1.1)
def C30 (n j:Int) (c:Cm) (s:SS):Tree (Bmw.T⊕Bep Bvt) :=
 bif decide (j<n) then
  .need (Bl5 [Bk4]) (bif okI j (W64 (j+1)) c s then
   bif okS (inR c.l c.re c.dr j.toNat (c.m-W64 (j+1)).toNat (W64 (j+1)).toNat s) then .need (Bl5 [Bk4]) (.leaf (.inl (Og n (W64 (j+1)) c (Bz1 (inR c.l c.re c.dr j.toNat (c.m-W64 (j+1)).toNat (W64 (j+1)).toNat s)))))
   else .need (Bl5 [Bx1]) (.leaf (.inr ⟨.ret,Rs 4⟩)) else .fail)
 else .need (Bl5 [Bk4]) (.leaf (.inr ⟨.exit 0,Og n j c s⟩))
theorem D7p (g:Bmw.T):evC Tryz.prog (Bcx Byq 7) Byq.pures 152 Byq.u Clr C2y (Bmw.of g) (Bhq Bmw Bvt)=C30 g.1.2.2.1 g.1.2.2.2.1 (cmO g) (ssO g):=by kernel_rfl
def okO (n j:Int) (c:Cm) (s:SS):Bool:=decide (0≤j∧j≤n∧n=c.m∧c.m=(c.l.length:Int)∧c.l.length≤1000∧s.1.length=c.l.length∧s.2.length+(n-j).toNat*1000≤1000000)
def Ct4 (n j:Int) (c:Cm) (s:SS):Tree (Bep Bvt) :=
 .br (okO n j c s) (.br (okS (Bff c.l c.re c.dr (n-j).toNat j.toNat s)) (.leaf ⟨.exit 0,Og n n c (Bz1 (Bff c.l c.re c.dr (n-j).toNat j.toNat s))⟩) (.leaf ⟨.ret,Rs 4⟩)) .fail
def C70 (g:Bmw.T):Tree (Bep Bvt):=Ct4 g.1.2.2.1 g.1.2.2.2.1 (cmO g) (ssO g)
theorem Bh7 (l:List (TCT Fq)) (re dr:Int) (i:Nat) (s:SS):Bff l re dr 0 i s=some s:=rfl
theorem Bfr (l:List (TCT Fq)) (re dr:Int) (f i:Nat) (s:SS):Bff l re dr (f+1) i s=(inR l re dr i (l.length-(i+1)) (i+1) s).bind fun s'=>Bff l re dr f (i+1) s':=rfl
theorem Ct5 {step:Bmw.T→Tree (Bmw.T⊕Bep Bvt)} (hs:∀ n j c s,step (Og n j c s)=C30 n j c s) (R:Bep Bvt→Prop) (n:Int) (c:Cm) (hn:n=c.m) (hm:c.m=(c.l.length:Int)) (hl:c.l.length≤1000) (f:Nat) :
  ∀ (j:Int) (s:SS),0≤j→n-j=f→s.1.length=c.l.length→s.2.length+f*1000≤1000000→(okS (Bff c.l c.re c.dr f j.toNat s)=true→R ⟨.exit 0,Og n n c (Bz1 (Bff c.l c.re c.dr f j.toNat s))⟩) →
   (okS (Bff c.l c.re c.dr f j.toNat s)=false→R ⟨.ret,Rs 4⟩)→C45 Bmw Bvt step R (f+1) (Og n j c s):=by
 induction f with
 | zero =>
  intro j s _ hk _ _ h1 _
  have e:j=n:=by omega
  subst e
  intro _
  rw [hs]
  unfold C30
  rw [decide_eq_false (show ¬ j<j by omega)]
  exact ⟨Beo _,fun _=>h1 rfl⟩
 | succ f ih =>
  intro j s hj hk hsl hsh h1 h2
  intro _
  rw [hs]
  unfold C30
  rw [Bfr] at h1 h2
  have hjt:(j+1).toNat=j.toNat+1:=by omega
  have hmk:(c.m-(j+1)).toNat=c.l.length-(j.toNat+1):=by omega
  have hok:okI j (j+1) c s=true:=decide_eq_true ⟨hj,by omega,by omega,by omega,hm,hl,hsl,by omega⟩
  rw [show W64 (j+1)=j+1 from Fp (by omega) (by omega),decide_eq_true (show j<n by omega),hok,hjt,hmk]
  refine ⟨Beo _,?_⟩
  cases he:inR c.l c.re c.dr j.toNat (c.l.length-(j.toNat+1)) (j.toNat+1) s with
  | none =>
   rw [he] at h2
   exact ⟨Beo _,fun _=>h2 rfl⟩
  | some s' =>
   rw [he,Option.bind_some] at h1 h2
   have hlen:=Cat _ _ _ _ he
   refine ⟨Beo _,ih (j+1) s' (by omega) (by omega) (hlen.1.trans hsl) (by omega) ?_ ?_⟩
   ·rw [hjt];exact h1
   ·rw [hjt];exact h2
theorem D7q:Bb0 Tryz.prog 152 C2y (Bhr Bmw Bvt C70):=by
 refine Bun puSe_ok 7 152 Clr ?_ Bmw Bvt (fun e=>by cases e <;> first | exact Nat.le_refl _ | exact (show 900≤1000 by omega)) C70 (fun g=>C30 g.1.2.2.1 g.1.2.2.2.1 (cmO g) (ssO g)) D7p ?_
 ·intro d hd f hf
  have hl:Ban C2y=[Bx2]:=by kernel_rfl
  rw [hl,List.mem_singleton] at hd
  subst hd
  have hk:keyOf Bx2=4:=by kernel_rfl
  rw [hk] at hf
  have:Clr 4=some (Bhr Bma Bt8 Bz3):=rfl
  rw [this,Option.some.injEq] at hf
  subst hf
  exact D7o
 intro g R _ hf
 obtain ⟨hf,h0⟩:=hf
 cases hc:okO g.1.2.2.1 g.1.2.2.2.1 (cmO g) (ssO g) with
 | false=>exact (h0 hc).elim
 | true =>
  obtain ⟨h1,h2⟩:=hf hc
  obtain ⟨k1,k2,k3,k4,k5,k6,k7⟩:=of_decide_eq_true hc
  exact ⟨_,Ct5 (fun _ _ _ _=>rfl) R g.1.2.2.1 (cmO g) k3 k4 k5 (g.1.2.2.1-g.1.2.2.2.1).toNat g.1.2.2.2.1 (ssO g) k1 (Int.toNat_of_nonneg (Int.sub_nonneg.2 k2)).symm k6 k7 h1 h2⟩
theorem is_Settle:FnIs Tryz.prog (99,Tryz.f99):=⟨Tryz.func99,by kernel_rfl,by kernel_rfl⟩
theorem is_pairs:FnIs Tryz.prog (135,Tryz.f135):=⟨Tryz.func135,by kernel_rfl,by kernel_rfl⟩
theorem is_pairs1:FnIs Tryz.prog (152,Tryz.f152):=⟨Tryz.func152,by kernel_rfl,by kernel_rfl⟩
abbrev Ct6:=TCTs [.sl Baw,.sl Bfk,cI]
def Bbi (l:List (TCT Fq)) (s:List (TCT Baw)) (re dr:Int):Ct6 :=
 bif Bix l s != 0 then ([],[],Bix l s,()) else bif !Bdo re dr then ([],[],2,()) else
 bif okS (Bff l re dr l.length 0 (s,[])) then ((Bz1 (Bff l re dr l.length 0 (s,[]))).1,(Bz1 (Bff l re dr l.length 0 (s,[]))).2,0,()) else ([],[],4,())
def plSet:List (Nat×PureT):=(134,C2v)::(126,Bdv)::plBn
theorem puSet:Bc7 Tryz.prog plSet:=puOk_cons is_lcheck.plain Clo (puOk_cons is_CheckBounce.plain Bin puBn)
noncomputable def C31:Ctx:=Bh4 Tryz.prog plSet [(99,Tryz.f99),(135,Tryz.f135),(152,Tryz.f152)] [((152,1),Bhr Bmw Bvt C70)]
def Bo9 (l:List (TCT Fq)) (s:List (TCT Baw)) (re dr:Int):Tree Ct6 :=
 bif Bix l s != 0 then .leaf ([],[],Bix l s,()) else bif okE (Bdo re dr)!=0 then .leaf ([],[],okE (Bdo re dr),()) else
 bif Bd9 ([]:List (TCT Baw)) s 48 then
  .need (Bl5 [Bk4]) (bif okO (l.length:Int) 0 ⟨l,re,dr,[],[],0,(l.length:Int)⟩ (s,[]) then
   bif okS (Bff l re dr ((l.length:Int)-0).toNat (0:Int).toNat (s,[])) then .leaf ((Bz1 (Bff l re dr ((l.length:Int)-0).toNat (0:Int).toNat (s,[]))).1,(Bz1 (Bff l re dr ((l.length:Int)-0).toNat (0:Int).toNat (s,[]))).2,0,()) else .leaf ([],[],4,()) else .fail) else .fail
theorem C32 (x:TCTs [.sl Fq,.sl Baw,Bbu]):Bcx C31 7 (.fn 99) (Bdi [.sl Fq,.sl Baw,Bbu] x) Bbx 0 (Bgt Tryz.prog [.sl Baw,.sl Bfk,cI])=Bo9 x.1 x.2.1 x.2.2.1.1 x.2.2.1.2.1:=by kernel_rfl
theorem C71 {l:List (TCT Fq)} {s:List (TCT Baw)} (h:Bix l s=0):l.length≤8∧l.length=s.length∧(l.zip s).all Bmv=true:=by
 unfold Bix at h
 cases h1:decide ((l.length:Int)>8) with
 | true=>rw [h1] at h;simp at h
 | false =>
  rw [h1,cond_false] at h
  cases h2:((l.length:Int)!=(s.length:Int)) with
  | true=>rw [h2] at h;simp at h
  | false =>
   rw [h2,cond_false] at h
   have k1:=of_decide_eq_false h1
   have k2:(l.length:Int)=(s.length:Int):=by simpa using h2
   refine ⟨by omega,by omega,?_⟩
   cases h3:(l.zip s).all Bmv with
   | true=>rfl
   | false=>rw [h3] at h;simp [okE] at h
theorem C33 (l:List (TCT Fq)) (s:List (TCT Baw)) (re dr:Int):(Bo9 l s re dr).sat (fun y=>y=Bbi l s re dr):=by
 unfold Bo9 Bbi
 cases hc:Bix l s != 0 with
 | true=>exact Eq.refl _
 | false =>
  have hc':Bix l s=0:=by simpa using hc
  obtain ⟨k1,k2,_⟩:=C71 hc'
  unfold okE
  cases hb:Bdo re dr with
  | false=>exact Eq.refl _
  | true =>
   have ha:Bd9 ([]:List (TCT Baw)) s 48=true:=by
    rw [Be2];refine decide_eq_true ?_;simp only [List.length_nil];omega
   have ho:okO (l.length:Int) 0 ⟨l,re,dr,[],[],0,(l.length:Int)⟩ (s,[])=true:=decide_eq_true ⟨by omega,by omega,rfl,rfl,by show l.length≤1000;omega,k2.symm,by show 0+((l.length:Int)-0).toNat*1000≤1000000;omega⟩
   rw [ha,ho,show ((l.length:Int)-0).toNat=l.length by omega,show (0:Int).toNat=0 from rfl]
   refine ⟨Beo _,?_⟩
   cases okS (Bff l re dr l.length 0 (s,[])) <;> exact Eq.refl _
theorem C34:CtxOk C31:=by
 refine Bca Bao puSet (fns_cons is_Settle (fns_cons is_pairs (fns_cons is_pairs1 V1))) ?_
 intro p hp d hd g hg
 simp only [List.mem_cons,List.not_mem_nil,or_false] at hp
 rcases hp with rfl | rfl | rfl
 ·simp only [Bc0] at hg
  rw [show Nat.beq 152 99=false from rfl,Bool.false_and] at hg
  cases hg
 ·simp only [Bc0] at hg
  rw [show Nat.beq 152 135=false from rfl,Bool.false_and] at hg
  cases hg
 ·have hl:Ban (bodyOf Tryz.f152)=[C2y,Bx2]:=by kernel_rfl
  simp only at hd hg
  rw [hl] at hd
  simp only [List.mem_cons,List.not_mem_nil,or_false] at hd
  rcases hd with rfl | rfl
  ·have hk:keyOf C2y=1:=by kernel_rfl
   rw [hk] at hg
   simp [Bc0] at hg
   subst hg
   exact D7q
  ·have hk:keyOf Bx2=4:=by kernel_rfl
   rw [hk] at hg
   simp only [Bc0] at hg
   rw [show Nat.beq 1 4=false from rfl,Bool.and_false] at hg
   cases hg
abbrev C35:PureT:=Bbe [.sl Fq,.sl Baw,Bbu] [.sl Baw,.sl Bfk,cI] (fun _=>true) (fun x=>((Bbi x.1 x.2.1 x.2.2.1.1 x.2.2.1.2.1).1,(Bbi x.1 x.2.1 x.2.2.1.1 x.2.2.1.2.1).2.1,(Bbi x.1 x.2.1 x.2.2.1.1 x.2.2.1.2.1).2.2.1,()))
theorem Cls:Bai Tryz.prog 99 C35:=Bbg C34 7 (fun x=>Bo9 x.1 x.2.1 x.2.2.1.1 x.2.2.1.2.1) (fun x=>C32 x) fun _ _ _=>C33 _ _ _ _
end V
end Go.Proofs.YtcfanlgpkefogaaGreat
