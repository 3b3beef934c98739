import Derived.Test.YtcfanlgpkefogaaGreatSb
namespace Go.Proofs.YtcfanlgpkefogaaGreat
open Go.RowKit
namespace V
noncomputable def Cmb:Bi3:=fun k=>bif Nat.beq k 4 then some (Bho Bm9 Btl Bzg) else none
def cmO (g:Bmz.T):Cm:=⟨g.2.1.1.1,g.2.1.2.1.1,g.2.1.2.1.2.1,g.2.1.2.2.1.1,g.2.1.2.2.2.1.1,g.2.1.2.2.2.2.1.1,g.2.1.2.2.2.2.2.2.2.1.1⟩
def ssO (g:Bmz.T):SS:=(g.2.1.2.2.2.2.2.1.1,g.2.1.2.2.2.2.2.2.1.1)
def C3a (n j:Int) (c:Cm) (s:SS):Tree (Bmz.T⊕Ben Bw3) :=
 bif decide (j<n) then
  .need (Bl6 [Bk6]) (bif okI j (W64 (j+1)) c s then
   bif okS (inR c.l c.re c.dr j.toNat (c.m-W64 (j+1)).toNat (W64 (j+1)).toNat s) then .need (Bl6 [Bk6]) (.leaf (.inl (Og n (W64 (j+1)) c (Bze (inR c.l c.re c.dr j.toNat (c.m-W64 (j+1)).toNat (W64 (j+1)).toNat s)))))
   else .need (Bl6 [Bx9]) (.leaf (.inr ⟨.ret,Rs 4⟩)) else .fail)
 else .need (Bl6 [Bk6]) (.leaf (.inr ⟨.exit 0,Og n j c s⟩))
theorem D85 (g:Bmz.T):evC Tryz.prog (Bcx Bz2 7) Bz2.pures 152 Bz2.u Cmb C38 (Bmz.of g) (Bhn Bmz Bw3)=C3a g.1.2.2.1 g.1.2.2.2.1 (cmO g) (ssO g):=by kernel_rfl
def okO (n j:Int) (c:Cm) (s:SS):Bool:=decide (0≤j∧j≤n∧n=c.m∧c.m=(c.l.length:Int)∧c.l.length≤1000∧s.1.length=c.l.length∧s.2.length+(n-j).toNat*1000≤1000000)
def Ctm (n j:Int) (c:Cm) (s:SS):Tree (Ben Bw3) :=
 .br (okO n j c s) (.br (okS (Bfr c.l c.re c.dr (n-j).toNat j.toNat s)) (.leaf ⟨.exit 0,Og n n c (Bze (Bfr c.l c.re c.dr (n-j).toNat j.toNat s))⟩) (.leaf ⟨.ret,Rs 4⟩)) .fail
def C7d (g:Bmz.T):Tree (Ben Bw3):=Ctm g.1.2.2.1 g.1.2.2.2.1 (cmO g) (ssO g)
theorem Biz (l:List (TCT Fq)) (re dr:Int) (i:Nat) (s:SS):Bfr l re dr 0 i s=some s:=rfl
theorem Bh5 (l:List (TCT Fq)) (re dr:Int) (f i:Nat) (s:SS):Bfr l re dr (f+1) i s=(inR l re dr i (l.length-(i+1)) (i+1) s).bind fun s'=>Bfr l re dr f (i+1) s':=rfl
theorem Ctn {step:Bmz.T→Tree (Bmz.T⊕Ben Bw3)} (hs:∀ n j c s,step (Og n j c s)=C3a n j c s) (R:Ben Bw3→Prop) (n:Int) (c:Cm) (hn:n=c.m) (hm:c.m=(c.l.length:Int)) (hl:c.l.length≤1000) (f:Nat) :
  ∀ (j:Int) (s:SS),0≤j→n-j=f→s.1.length=c.l.length→s.2.length+f*1000≤1000000→(okS (Bfr c.l c.re c.dr f j.toNat s)=true→R ⟨.exit 0,Og n n c (Bze (Bfr c.l c.re c.dr f j.toNat s))⟩) →
   (okS (Bfr c.l c.re c.dr f j.toNat s)=false→R ⟨.ret,Rs 4⟩)→C4i Bmz Bw3 step R (f+1) (Og n j c s):=by
 induction f with
 | zero =>
  intro j s _ hk _ _ h1 _
  have e:j=n:=by omega
  subst e
  intro _
  rw [hs]
  unfold C3a
  rw [decide_eq_false (show ¬ j<j by omega)]
  exact ⟨Bem _,fun _=>h1 rfl⟩
 | succ f ih =>
  intro j s hj hk hsl hsh h1 h2
  intro _
  rw [hs]
  unfold C3a
  rw [Bh5] at h1 h2
  have hjt:(j+1).toNat=j.toNat+1:=by omega
  have hmk:(c.m-(j+1)).toNat=c.l.length-(j.toNat+1):=by omega
  have hok:okI j (j+1) c s=true:=decide_eq_true ⟨hj,by omega,by omega,by omega,hm,hl,hsl,by omega⟩
  rw [show W64 (j+1)=j+1 from Bah (by omega) (by omega),decide_eq_true (show j<n by omega),hok,hjt,hmk]
  refine ⟨Bem _,?_⟩
  cases he:inR c.l c.re c.dr j.toNat (c.l.length-(j.toNat+1)) (j.toNat+1) s with
  | none =>
   rw [he] at h2
   exact ⟨Bem _,fun _=>h2 rfl⟩
  | some s' =>
   rw [he,Option.bind_some] at h1 h2
   have hlen:=Cb5 _ _ _ _ he
   refine ⟨Bem _,ih (j+1) s' (by omega) (by omega) (hlen.1.trans hsl) (by omega) ?_ ?_⟩
   ·rw [hjt];exact h1
   ·rw [hjt];exact h2
theorem D86:Bb0 Tryz.prog 152 C38 (Bho Bmz Bw3 C7d):=by
 refine Buz puSe_ok 7 152 Cmb ?_ Bmz Bw3 (fun e=>by cases e <;> first | exact Nat.le_refl _ | exact (show 900≤1000 by omega)) C7d (fun g=>C3a g.1.2.2.1 g.1.2.2.2.1 (cmO g) (ssO g)) D85 ?_
 ·intro d hd f hf
  have hl:Bal C38=[Bxa]:=by kernel_rfl
  rw [hl,List.mem_singleton] at hd
  subst hd
  have hk:keyOf Bxa=4:=by kernel_rfl
  rw [hk] at hf
  have:Cmb 4=some (Bho Bm9 Btl Bzg):=rfl
  rw [this,Option.some.injEq] at hf
  subst hf
  exact D84
 intro g R _ hf
 obtain ⟨hf,h0⟩:=hf
 cases hc:okO g.1.2.2.1 g.1.2.2.2.1 (cmO g) (ssO g) with
 | false=>exact (h0 hc).elim
 | true =>
  obtain ⟨h1,h2⟩:=hf hc
  obtain ⟨k1,k2,k3,k4,k5,k6,k7⟩:=of_decide_eq_true hc
  exact ⟨_,Ctn (fun _ _ _ _=>rfl) R g.1.2.2.1 (cmO g) k3 k4 k5 (g.1.2.2.1-g.1.2.2.2.1).toNat g.1.2.2.2.1 (ssO g) k1 (Int.toNat_of_nonneg (Int.sub_nonneg.2 k2)).symm k6 k7 h1 h2⟩
theorem is_Settle:FnIs Tryz.prog (99,Tryz.f99):=⟨Tryz.func99,by kernel_rfl,by kernel_rfl⟩
theorem is_pairs:FnIs Tryz.prog (135,Tryz.f135):=⟨Tryz.func135,by kernel_rfl,by kernel_rfl⟩
theorem is_pairs1:FnIs Tryz.prog (152,Tryz.f152):=⟨Tryz.func152,by kernel_rfl,by kernel_rfl⟩
abbrev Cto:=TCTs [.sl Baq,.sl Bfk,cI]
def Bbr (l:List (TCT Fq)) (s:List (TCT Baq)) (re dr:Int):Cto :=
 bif Bjh l s != 0 then ([],[],Bjh l s,()) else bif !Bfj re dr then ([],[],2,()) else
 bif okS (Bfr l re dr l.length 0 (s,[])) then ((Bze (Bfr l re dr l.length 0 (s,[]))).1,(Bze (Bfr l re dr l.length 0 (s,[]))).2,0,()) else ([],[],4,())
def plSet:List (Nat×PureT):=(134,C35)::(126,Bdv)::plBn
theorem puSet:Bc5 Tryz.prog plSet:=puOk_cons is_lcheck.plain Cm8 (puOk_cons is_CheckBounce.plain Bin puBn)
noncomputable def C3b:Ctx:=Bgo Tryz.prog plSet [(99,Tryz.f99),(135,Tryz.f135),(152,Tryz.f152)] [((152,1),Bho Bmz Bw3 C7d)]
def Bo9 (l:List (TCT Fq)) (s:List (TCT Baq)) (re dr:Int):Tree Cto :=
 bif Bjh l s != 0 then .leaf ([],[],Bjh l s,()) else bif okE (Bfj re dr)!=0 then .leaf ([],[],okE (Bfj re dr),()) else
 bif Bd8 ([]:List (TCT Baq)) s 48 then
  .need (Bl6 [Bk6]) (bif okO (l.length:Int) 0 ⟨l,re,dr,[],[],0,(l.length:Int)⟩ (s,[]) then
   bif okS (Bfr l re dr ((l.length:Int)-0).toNat (0:Int).toNat (s,[])) then .leaf ((Bze (Bfr l re dr ((l.length:Int)-0).toNat (0:Int).toNat (s,[]))).1,(Bze (Bfr l re dr ((l.length:Int)-0).toNat (0:Int).toNat (s,[]))).2,0,()) else .leaf ([],[],4,()) else .fail) else .fail
theorem C3c (x:TCTs [.sl Fq,.sl Baq,Bbv]):Bcx C3b 7 (.fn 99) (Bdi [.sl Fq,.sl Baq,Bbv] x) Bbx 0 (Bgq Tryz.prog [.sl Baq,.sl Bfk,cI])=Bo9 x.1 x.2.1 x.2.2.1.1 x.2.2.1.2.1:=by kernel_rfl
theorem C7e {l:List (TCT Fq)} {s:List (TCT Baq)} (h:Bjh l s=0):l.length≤8∧l.length=s.length∧(l.zip s).all Bmy=true:=by
 unfold Bjh at h
 cases h1:decide ((l.length:Int)>8) with
 | true=>rw [h1] at h;simp at h
 | false =>
  rw [h1,cond_false] at h
  cases h2:((l.length:Int)!=(s.length:Int)) with
  | true=>rw [h2] at h;simp at h
  | false =>
   rw [h2,cond_false] at h
   have k1:=of_decide_eq_false h1
   have k2:(l.length:Int)=(s.length:Int):=by simpa using h2
   refine ⟨by omega,by omega,?_⟩
   cases h3:(l.zip s).all Bmy with
   | true=>rfl
   | false=>rw [h3] at h;simp [okE] at h
theorem C3d (l:List (TCT Fq)) (s:List (TCT Baq)) (re dr:Int):(Bo9 l s re dr).sat (fun y=>y=Bbr l s re dr):=by
 unfold Bo9 Bbr
 cases hc:Bjh l s != 0 with
 | true=>exact Eq.refl _
 | false =>
  have hc':Bjh l s=0:=by simpa using hc
  obtain ⟨k1,k2,_⟩:=C7e hc'
  unfold okE
  cases hb:Bfj re dr with
  | false=>exact Eq.refl _
  | true =>
   have ha:Bd8 ([]:List (TCT Baq)) s 48=true:=by
    rw [Be3];refine decide_eq_true ?_;simp only [List.length_nil];omega
   have ho:okO (l.length:Int) 0 ⟨l,re,dr,[],[],0,(l.length:Int)⟩ (s,[])=true:=decide_eq_true ⟨by omega,by omega,rfl,rfl,by show l.length≤1000;omega,k2.symm,by show 0+((l.length:Int)-0).toNat*1000≤1000000;omega⟩
   rw [ha,ho,show ((l.length:Int)-0).toNat=l.length by omega,show (0:Int).toNat=0 from rfl]
   refine ⟨Bem _,?_⟩
   cases okS (Bfr l re dr l.length 0 (s,[])) <;> exact Eq.refl _
theorem C3e:CtxOk C3b:=by
 refine Bc8 Bao puSet (fns_cons is_Settle (fns_cons is_pairs (fns_cons is_pairs1 No))) ?_
 intro p hp d hd g hg
 simp only [List.mem_cons,List.not_mem_nil,or_false] at hp
 rcases hp with rfl | rfl | rfl
 ·simp only [Bby] at hg
  rw [show Nat.beq 152 99=false from rfl,Bool.false_and] at hg
  cases hg
 ·simp only [Bby] at hg
  rw [show Nat.beq 152 135=false from rfl,Bool.false_and] at hg
  cases hg
 ·have hl:Bal (bodyOf Tryz.f152)=[C38,Bxa]:=by kernel_rfl
  simp only at hd hg
  rw [hl] at hd
  simp only [List.mem_cons,List.not_mem_nil,or_false] at hd
  rcases hd with rfl | rfl
  ·have hk:keyOf C38=1:=by kernel_rfl
   rw [hk] at hg
   simp [Bby] at hg
   subst hg
   exact D86
  ·have hk:keyOf Bxa=4:=by kernel_rfl
   rw [hk] at hg
   simp only [Bby] at hg
   rw [show Nat.beq 1 4=false from rfl,Bool.and_false] at hg
   cases hg
abbrev C3f:PureT:=Bbc [.sl Fq,.sl Baq,Bbv] [.sl Baq,.sl Bfk,cI] (fun _=>true) (fun x=>((Bbr x.1 x.2.1 x.2.2.1.1 x.2.2.1.2.1).1,(Bbr x.1 x.2.1 x.2.2.1.1 x.2.2.1.2.1).2.1,(Bbr x.1 x.2.1 x.2.2.1.1 x.2.2.1.2.1).2.2.1,()))
theorem Cmc:Bai Tryz.prog 99 C3f:=Bbd C3e 7 (fun x=>Bo9 x.1 x.2.1 x.2.2.1.1 x.2.2.1.2.1) (fun x=>C3c x) fun _ _ _=>C3d _ _ _ _
end V
end Go.Proofs.YtcfanlgpkefogaaGreat
