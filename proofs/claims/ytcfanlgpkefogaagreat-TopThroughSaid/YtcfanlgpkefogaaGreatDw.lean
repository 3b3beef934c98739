import Derived.Test.YtcfanlgpkefogaaGreatCq
namespace Go.Proofs.YtcfanlgpkefogaaGreat
open Go.RowKit
namespace V
def Aio {L:Lay2} {E:XE→Lay2} {A:Type} (t:TypeId) (k:IntKind) (Y:L.T→Option (A⊕Int)) (mk:L.T→A→(E (.exit 0)).T) (pn:L.T→(n:Int)→(E (.panic (.ifc t (.int k n)))).T) (d:A) (g:L.T):Tree (Es E) :=
 .br (isL (Y g)) (.leaf ⟨.exit 0,mk g (gL d (Y g))⟩) (.br (isR (Y g)) (.leaf ⟨.panic (.ifc t (.int k (gR 0 (Y g)))),pn g (gR 0 (Y g))⟩) .fail)
def Bgl {L:Lay2} {E:XE→Lay2} {A:Type} (t:TypeId) (k:IntKind) (mk:L.T→A→(E (.exit 0)).T) (pn:L.T→(n:Int)→(E (.panic (.ifc t (.int k n)))).T) (g:L.T):A⊕Int→Es E
 | .inl a=>⟨.exit 0,mk g a⟩
 | .inr e=>⟨.panic (.ifc t (.int k e)),pn g e⟩
theorem A3n {X:Ctx} (hX:CtxOk X) (m:Nat) (fn:FuncId) {c:Code} (L:Lay2) (E:XE→Lay2) (hE:∀ e,L.nx≤(E e).nx) {A:Type} (t:TypeId) (k:IntKind) (Y:L.T→Option (A⊕Int)) (mk:L.T→A→(E (.exit 0)).T) (pn:L.T→(n:Int)→(E (.panic (.ifc t (.int k n)))).T) (d:A) (step:L.T→Tree (L.T⊕Es E))
  (hstep:∀ g,evC X.P (E1 X m) X.pures fn X.u (fun _=>none) c (L.of g) (H7 L E)=step g)
  (hfin:∀ g z,L.WF g→Y g=some z→∃ n,∀ R:Es E→Prop,R (Bgl t k mk pn g z)→Wt L E step R n g):Bc X.P fn c (H8 L E (Aio t k Y mk pn d)):=by
 refine S3 hX m fn (fun _=>none) (fun _ _ f h=>by simp at h) L E hE (Aio t k Y mk pn d) step hstep ?_
 intro g R hw hf
 obtain ⟨h1,h2⟩:=hf
 cases hY:Y g with
 | none =>
  rw [hY] at h2
  exact ((h2 rfl).2 rfl).elim
 | some z =>
  obtain ⟨n,hn⟩:=hfin g z hw hY
  refine ⟨n,hn R ?_⟩
  rw [hY] at h1 h2
  cases z with
  | inl a=>exact h1 rfl
  | inr e=>exact (h2 rfl).1 rfl
namespace St
theorem is_srun:FnIs Tryz.prog (63,Tryz.f63):=⟨Tryz.func63,by kernel_rfl,by kernel_rfl⟩
theorem is_srun2:FnIs Tryz.prog (108,Tryz.f108):=⟨Tryz.func108,by kernel_rfl,by kernel_rfl⟩
theorem is_sticks:FnIs Tryz.prog (109,Tryz.f109):=⟨Tryz.func109,by kernel_rfl,by kernel_rfl⟩
theorem is_sticks1:FnIs Tryz.prog (141,Tryz.f141):=⟨Tryz.func141,by kernel_rfl,by kernel_rfl⟩
theorem is_sPlay:FnIs Tryz.prog (21,Tryz.f21):=⟨Tryz.func21,by kernel_rfl,by kernel_rfl⟩
theorem is_sPlay1:FnIs Tryz.prog (64,Tryz.f64):=⟨Tryz.func64,by kernel_rfl,by kernel_rfl⟩
theorem is_sTrack:FnIs Tryz.prog (29,Tryz.f29):=⟨Tryz.func29,by kernel_rfl,by kernel_rfl⟩
theorem is_sTrack1:FnIs Tryz.prog (80,Tryz.f80):=⟨Tryz.func80,by kernel_rfl,by kernel_rfl⟩
noncomputable def B24:List (Nat×Func):=[(63,Tryz.f63),(108,Tryz.f108),(109,Tryz.f109),(141,Tryz.f141),(45,Tryz.f45),(47,Tryz.f47),(97,Tryz.f97),(49,Tryz.f49),(95,Tryz.f95),(96,Tryz.f96),(21,Tryz.f21),(64,Tryz.f64),(29,Tryz.f29),(80,Tryz.f80)]
theorem A61:∀ p ∈ B24,FnIs Tryz.prog p:=fns_cons is_srun (fns_cons is_srun2 (fns_cons is_sticks (fns_cons is_sticks1 (fns_cons is_newGame (fns_cons is_sTry (fns_cons is_sTry1 (fns_cons is_must (fns_cons is_clMot (fns_cons is_clBool (fns_cons is_sPlay (fns_cons is_sPlay1 (fns_cons is_sTrack (fns_cons is_sTrack1 A1)))))))))))))
noncomputable def Yb:Code:=(Ak (bodyOf Tryz.f141)).getD 0 .skip
abbrev kGo (k:Nat):List SK:=[.d .s,.d cI,.d cI,.d cI,.d (.sl Bt),.d cI,.d cI,.d cI,.d cI,.d cI,.d (.sl Dc),.d (.sl A2),.d cI,.d cI,.d (.sl A6),.o 60 Bg,.o 4 .b,.d cI,.d cI,.d cI,.d cI,.f 107 [] [.p k 0 0 0]]
abbrev kSn:List SK:=[.o 60 Bg,.o 4 .b,.d cI,.d cI,.d cI]
noncomputable def lkR (o:Nat):LK:={ id:=o+31,keys:=[2,3],ks:=[.p (o+8) 0 0 0,.p (o+6) 0 0 0],n:=16,fn:=108,params:=[8],assign:=(rangeAt Tryz.f108 0).1,body:=(rangeAt Tryz.f108 0).2,df:=o+30,st:=some 0 }
def Bko:List BK:=[(2,45,kSn),(6,151,[.f 64 [] []]),(7,45,kSn),(8,48,[.o 58 cKn]),(25,137,kGo 8),(26,130,[.p 25 0 0 0]),(27,49,[.d cI]),(28,130,[.p 25 0 0 0]),(29,3,[.d cI])]
def Bkp:List BK:=[(2,45,kSn),(7,45,kSn),(8,48,[.o 58 cKn]),(25,137,kGo 8),(26,130,[.p 25 0 0 0]),(27,49,[.d cI])]
def Bkq:List BK:=[(2,45,kSn),(7,45,kSn),(27,49,[.d cI])]
noncomputable def Xc:Lay2:={ keys:=[0,1,2],ks:=[.y 31,.p 28 0 0 0,.p 29 0 0 0],bs:=Bko,ls:=[lkR 0],n:=25,nx:=1000,marks:=[],ds:=[30] }
noncomputable def Bgm:Lay2:={ keys:=[],ks:=[],bs:=Bkp,ls:=[lkR 0],n:=25,nx:=1000,marks:=[],ds:=[30] }
def Bgn:Lay2:={ keys:=[],ks:=[],bs:=Bkq,ls:=[],n:=25,nx:=1000,marks:=[],ds:=[30] }
noncomputable def Ael:XE→Lay2:=fun e=>match e with | .panic _=>Bgn | _=>Bgm
noncomputable def Aem (Y:Y2):Ctx:=Ua Tryz.prog plTk B24 [] [(54,spYT 107 Y)]
theorem Aip:CtxOk (Aem Jo):=Gn Aw puTk A61 K7 (fun p hp=>by
 rw [List.mem_singleton] at hp;subst hp;exact ⟨is_gtick.plain,B1j⟩)
noncomputable def lsP (o:Nat):LTs [lkR o]:=(((((),(),()):SKTs (lkR o).ks),((():Unit):StT (lkR o).st)),())
structure CP where
 a:SKTs kSn
 b:SKTs kSn
 e:Int
def cpl (g:Xc.T):CP:=⟨g.2.1.1,g.2.1.2.2.1,g.2.1.2.2.2.2.2.2.1.1⟩
def xpl (g:Xc.T):GB:=(g.2.1.2.2.2.2.1,(g.2.1.2.2.2.1.1,()),())
def npl (g:Xc.T):Int:=g.2.1.2.2.2.2.2.2.2.2.1.1
noncomputable def B6s (c:CP) (x:GB) (n:Int):Xc.T:=(((),(),(),()),(c.a,(((),()),()),c.b,(x.2.1.1,()),x.1,((),()),(c.e,()),((),()),(n,()),()),lsP 0)
noncomputable def Au2 (c:CP) (x:GB):Bgm.T:=((),(c.a,c.b,(x.2.1.1,()),x.1,((),()),(c.e,()),()),lsP 0)
def Au3 (c:CP):Bgn.T:=((),(c.a,c.b,(c.e,()),()),())
abbrev TPl:=Tree (Xc.T⊕Es Ael)
noncomputable def B6t (c:CP) (x:GB):TPl:=.need (I9 [lkR 0]) (.leaf (.inr ⟨.exit 0,Au2 c x⟩))
noncomputable def B6u (c:CP) (e:Int):TPl:=.need (I9 []) (.leaf (.inr ⟨.panic (.ifc 49 (.int .i64 e)),Au3 c⟩))
def stG (m:GM):TCT cSt:=(gmM m,gmO m,gmW m,gmF m,gmT m,())
noncomputable def Rk (Y:Y2) (c:CP) (x:GB) (n:Int):TPl:=bif decide (((gk x).length:Int)>4096) then B6u c 6 else bif decide (n>0) then bif !C2 (stG x.1) then thY (Y x) z2 (B6u c) fun s=>.need (I9 [lkR 0]) (.leaf (.inl (B6s c (xT x s) (W64 (n-1))))) else B6t c x else B6t c x
theorem Bkr (Y:Y2) (g:Xc.T):evC Tryz.prog (E1 (Aem Y) 9) (Aem Y).pures 141 (Aem Y).u (fun _=>none) Yb (Xc.of g) (H7 Xc Ael)=Rk Y (cpl g) (xpl g) (npl g):=by kernel_rfl
def plRn:Nat→GB→GB⊕Int
 | 0,x=>bif decide (((gk x).length:Int)>4096) then .inr 6 else .inl x
 | n+1,x=>bif decide (((gk x).length:Int)>4096) then .inr 6 else bif !C2 (stG x.1) then match tkF (ctG x.1) (gs x) with
  | .inl s=>plRn n (xT x s)
  | .inr e=>.inr e
  else .inl x
abbrev YP:Type:=GB→Int→Option (GB⊕Int)
def A9v (x:GB) (n:Int):Bool:=Alm x.1&&(decide ((gmP x.1).length≤1000)&&decide (0≤n∧n≤4000))
def A9w (x:GB) (n:Int):Option (GB⊕Int):=bif A9v x n then some (plRn (Int.toNat n) x) else none
def zGB:GB:=(dflKs (kGm 0),([],()),())
noncomputable def Bb7 (Y:YP):Xc.T→Tree (Es Ael):=Aio 49 .i64 (fun g=>Y (xpl g) (npl g)) (fun g=>Au2 (cpl g)) (fun g _=>Au3 (cpl g)) zGB
noncomputable def B6v (Y:YP):St→Tree (XE×St):=H8 Xc Ael (Bb7 Y)
theorem Aiq {l:TCT A9} {os:List Bool} {w fl:Int} {i:Nat} {ms ms':B5} (h:slE l os w fl i ms=.inl ms'):ms'.length=ms.length:=by
 unfold slE at h
 cases h1:!Cp ms os i||Ff w fl i with
 | true=>rw [h1] at h;cases h;rfl
 | false =>
  rw [h1] at h
  cases h2:Fy l (A8 ms i).1 != 0 with
  | true=>rw [h2] at h;cases h
  | false =>
   rw [h2] at h
   cases h3:(Ld l (A8 ms i)).2.1 != 0 with
   | true=>rw [h3] at h;cases h
   | false=>rw [h3] at h;cases h;exact C7 _ _ _
theorem B25 {k:CT} {s s':S2} (hn:k.bl.length≤8) (hp:k.ps.length≤1000) (hm:s.1.length=k.bl.length) (ho:s.2.1.length=k.bl.length) (h:tkF k s=.inl s'):s'.1.length=k.bl.length∧s'.2.1.length=k.bl.length:=by
 unfold tkF at h
 cases h0:k.t==4000 with
 | true=>rw [h0] at h;cases h
 | false =>
  rw [h0] at h
  simp only [cond_false] at h
  cases h1:B8 (slE k.l s.2.1 k.w k.fl) 0 k.bl.length s.1 with
  | inr e=>rw [h1] at h;cases h
  | inl ms =>
   rw [h1] at h
   have a:ms.length=k.bl.length:=Bn (n:=k.bl.length) (Inv:=fun _ (s:B5)=>s.length=k.bl.length) (fun i s s' _ hl h=>(Aiq h).trans hl) k.bl.length 0 _ _ (by omega) hm h1
   have h2:B8 (tkE k) 0 16 (ms,s.2.1,s.2.2)=.inl s':=h
   have b:Inv2 k.bl.length (s.2.2.length+16*8072) 0 s':=Bn (n:=16) (Inv:=fun i s2=>Inv2 k.bl.length (s.2.2.length+i*8072) 0 s2) (fun i s s' hi hs h=>A5y (m:=16) hn hp i s s' hi hs h) 16 0 (ms,s.2.1,s.2.2) s' (by omega) ⟨a,ho,by show s.2.2.length≤s.2.2.length+0*8072+0;omega⟩ h2
   exact ⟨b.m,b.o⟩
theorem Air {x:GB} {s:S2} (h:OkGM x.1) (hp:(gmP x.1).length≤1000) (ht:tkF (ctG x.1) (gs x)=.inl s):OkGM (xT x s).1:=by
 have a:=B25 (k:=ctG x.1) h.n hp h.ms h.os ht
 exact Ej.1 (Ej.2 ⟨h.sz,a.1,a.2,h.n⟩)
theorem Ais (c:CP) {R:Es Ael→Prop}:∀ (n:Nat) (x:GB),n≤4000→OkGM x.1→(gmP x.1).length≤1000→R (match plRn n x with
  | .inl x'=>⟨.exit 0,Au2 c x'⟩
  | .inr e=>⟨.panic (.ifc 49 (.int .i64 e)),Au3 c⟩)→Wt Xc Ael (fun g=>Rk Jo (cpl g) (xpl g) (npl g)) R (n+1) (B6s c x n)
 | 0,x,_,h,hp,hR=>by
  intro _
  show (Rk Jo c x ((0:Nat):Int)).sat _
  unfold Rk
  unfold plRn at hR
  cases hm:decide (((gk x).length:Int)>4096) with
  | true=>rw [hm] at hR;exact ⟨trivial,fun _=>hR⟩
  | false =>
   rw [hm] at hR
   exact ⟨Dz _,fun _=>hR⟩
 | n+1,x,hn,h,hp,hR=>by
  intro _
  show (Rk Jo c x ((n+1:Nat):Int)).sat _
  unfold Rk
  unfold plRn at hR
  cases hm:decide (((gk x).length:Int)>4096) with
  | true=>rw [hm] at hR;exact ⟨trivial,fun _=>hR⟩
  | false =>
   rw [hm] at hR
   simp only [cond_false] at hR ⊢
   rw [decide_eq_true (show ((n+1:Nat):Int)>0 by omega),cond_true]
   cases hs:C2 (stG x.1) with
   | true=>rw [hs] at hR;exact ⟨Dz _,fun _=>hR⟩
   | false =>
    rw [hs] at hR
    simp only [Bool.not_false,cond_true] at hR ⊢
    have hk:=of_decide_eq_false hm
    have hy:Jo x=some (tkF (ctG x.1) (gs x)):=by
     unfold Jo
     rw [show A2f x=true by
      unfold A2f A2e Ov
      simp only [Bool.and_eq_true,decide_eq_true_eq]
      exact ⟨⟨⟨Ej.2 h,by omega⟩,hp⟩,by omega⟩]
     rfl
    cases ht:tkF (ctG x.1) (gs x) with
    | inr e=>rw [ht] at hy hR;rw [Qs hy];exact ⟨trivial,fun _=>hR⟩
    | inl s =>
     rw [ht] at hy hR
     rw [Qr hy,show W64 (((n+1:Nat):Int)-1)=(n:Int) by rw [show ((n+1:Nat):Int)-1=(n:Int) by omega];exact Bi (by omega) (by omega)]
     exact ⟨Dz _,Ais c n (xT x s) (by omega) (Air h hp ht) hp hR⟩
theorem A9x {x:GB} {n:Int} (h:A9v x n=true):OkGM x.1∧(gmP x.1).length≤1000∧(0≤n∧n≤4000):=by
 unfold A9v at h
 simp only [Bool.and_eq_true,decide_eq_true_eq] at h
 exact ⟨Ej.1 h.1,h.2.1,h.2.2⟩
theorem Bks:Bc Tryz.prog 141 Yb (B6v A9w):=A3n Aip 9 _ Xc Ael (fun e=>by cases e <;> exact Nat.le_refl _) _ _ _ _ _ _ (fun g=>Rk Jo (cpl g) (xpl g) (npl g)) (Bkr Jo) fun g z _ hz=>by
 unfold A9w at hz
 cases ho:A9v (xpl g) (npl g) with
 | false=>rw [ho] at hz;cases hz
 | true =>
  rw [ho] at hz
  cases hz
  obtain ⟨h1,h2,h3⟩:=A9x ho
  refine ⟨Int.toNat (npl g)+1,fun R hR=>?_⟩
  have:=Ais (cpl g) (R:=R) (Int.toNat (npl g)) (xpl g) (by omega) h1 h2 (by
   revert hR
   cases plRn (Int.toNat (npl g)) (xpl g) <;> exact id)
  rw [Int.toNat_of_nonneg h3.1] at this
  exact this
end St
end V
end Go.Proofs.YtcfanlgpkefogaaGreat
namespace Go.Proofs.YtcfanlgpkefogaaGreat
open Go.RowKit
namespace V
namespace St
noncomputable def Bgo (Y:YP):Ctx:=Ua Tryz.prog plTk B24 [((141,0),B6v Y)] []
theorem B26:CtxOk (Bgo A9w):=Gn Aw puTk A61 (Bj (Br (by kernel_rfl)) (Bj (Br (by kernel_rfl)) (Bj (Br (by kernel_rfl)) (Bj (Jd (ds:=[Yb]) (by kernel_rfl) ⟨Hh (k:=0) (by kernel_rfl) rfl Bks,trivial⟩) (Bj (Br (by kernel_rfl)) (Bj (Br (by kernel_rfl)) (Bj (Br (by kernel_rfl)) (Bj (Br (by kernel_rfl)) (Bj (Br (by kernel_rfl)) (Bj (Br (by kernel_rfl)) (Bj (Br (by kernel_rfl)) (Bj (Br (by kernel_rfl)) (Bj (Br (by kernel_rfl)) (Bj (Br (by kernel_rfl)) (Gk))))))))))))))) (fun p hp=>nomatch hp)
def Bgp (x:GB):TkR:=(stG x.1,gk x,0,())
def Bgq (y:Option (GB⊕Int)):TTR:=thY y zGB (fun e=>bif e != 0 then lfT2 (I3 e) else .fail) fun x=>lfT2 (Bgp x)
where lfT2 (r:TkR):TTR:=.leaf r
noncomputable def B27 (Y:YP) (g:TCT cGr) (s:TCT cSt) (n:Int):TTR:=szT g.1 (bif Db g s != 0 then .leaf (I3 (Db g s)) else bif decide (n<0) then .leaf (I3 3) else bif decide (n>4000) then .leaf (I3 3) else szT g.1 (neT (msT s) (acT (msT s) 48 (neT (osT s) (acT (osT s) 1 (.need (I9 [lkR 0]) (Bgq (Y (gT g s) n))))))))
theorem B28 (Y:YP) (x:TCTs [cGr,cSt,cI]):E1 (Bgo Y) 9 (.fn 21) (Eg [cGr,cSt,cI] x) Ck 0 (If Tryz.prog [cSt,.sl cKn,cI])=B27 Y x.1 x.2.1 x.2.2.1:=by kernel_rfl
theorem Ait {g:TCT cGr} {s:TCT cSt} {n:Int} (hs:(g.1.1.size:Int)≤Bo .i64) (h:StaOk g s) (hn:0≤n∧n≤4000):A9v (gT g s) n=true:=by
 have a:=Aig hs h
 have b:=A9m a
 unfold A9v
 simp only [Bool.and_eq_true,decide_eq_true_eq]
 exact ⟨Ej.2 b.1,b.2.2,hn⟩
def Alx:GB⊕Int→TkR
 | .inl x=>Bgp x
 | .inr e=>I3 e
def PlayV (g:TCT cGr) (s:TCT cSt) (n:Int):TkR:=bif Db g s != 0 then I3 (Db g s) else bif decide (n<0)||decide (n>4000) then I3 3 else Alx (plRn (Int.toNat n) (gT g s))
theorem plRn_ne:∀ (n:Nat) (x:GB) (e:Int),plRn n x=.inr e→e≠0
 | 0,x,e,h=>by
  unfold plRn at h
  cases hm:decide (((gk x).length:Int)>4096) with
  | true=>rw [hm] at h;cases h;decide
  | false=>rw [hm] at h;cases h
 | n+1,x,e,h=>by
  unfold plRn at h
  cases hm:decide (((gk x).length:Int)>4096) with
  | true=>rw [hm] at h;cases h;decide
  | false =>
   rw [hm] at h
   cases hs:C2 (stG x.1) with
   | true=>rw [hs] at h;cases h
   | false =>
    rw [hs] at h
    simp only [cond_false,Bool.not_false,cond_true] at h
    cases ht:tkF (ctG x.1) (gs x) with
    | inr e'=>rw [ht] at h;cases h;exact Aee ht
    | inl s=>rw [ht] at h;exact plRn_ne n _ e h
abbrev B29:PureT:=Bz [cGr,cSt,cI] [cSt,.sl cKn,cI] (fun x=>decide ((x.1.1.1.size:Int)≤Bo .i64)) (fun x=>Zh (PlayV x.1 x.2.1 x.2.2.1))
theorem B2a {g:TCT cGr} {s:TCT cSt} {n:Int} (hs:(g.1.1.size:Int)≤Bo .i64):(B27 A9w g s n).sat (fun y=>y=Zh (PlayV g s n)):=by
 unfold B27 PlayV
 rw [Dh hs,Dh hs]
 cases h1:Db g s != 0 with
 | true=>exact rfl
 | false =>
  have h:=Zj (bne_eq_false_iff_eq.1 h1)
  have hn1:=h.n1
  have hn8:=h.n8
  have hm:=h.m
  have ho:=h.o
  simp only [cond_false]
  cases h2:decide (n<0) with
  | true=>exact rfl
  | false =>
   cases h3:decide (n>4000) with
   | true=>exact rfl
   | false =>
    have a2:=of_decide_eq_false h2
    have a3:=of_decide_eq_false h3
    simp only [cond_false,Bool.or_false]
    rw [Ow (by omega),Ox (by omega) (by decide),Ow (by omega),Ox (by omega) (by decide)]
    refine ⟨Dz _,?_⟩
    have hy:A9w (gT g s) n=some (plRn (Int.toNat n) (gT g s)):=by
     unfold A9w
     rw [Ait hs h ⟨by omega,by omega⟩];rfl
    unfold Bgq
    cases hf:plRn (Int.toNat n) (gT g s) with
    | inl x=>rw [hf] at hy;rw [Qr hy];exact rfl
    | inr e=>rw [hf] at hy;rw [Qs hy,show (e != 0)=true from bne_iff_ne.2 (plRn_ne _ _ _ hf)];exact rfl
theorem B2b:A5 Tryz.prog 21 B29:=C5 B26 9 (fun x=>B27 A9w x.1 x.2.1 x.2.2.1) (B28 A9w) fun _ hok _=>B2a (of_decide_eq_true hok)
end St
end V
end Go.Proofs.YtcfanlgpkefogaaGreat
namespace Go.Proofs.YtcfanlgpkefogaaGreat
open Go.RowKit
namespace V
namespace St
def Bkt:List BK:=[(2,3,[.d cI]),(3,98,[.o 31 cPt]),(7,151,[.f 80 [] [.p 3 0 0 0,.p 2 0 0 0]]),(8,45,kSn),(9,48,[.o 58 cKn]),(26,137,kGo 9),(27,130,[.p 26 0 0 0]),(28,49,[.d cI]),(29,130,[.p 26 0 0 0]),(30,3,[.d cI])]
def Bku:List BK:=[(3,98,[.o 31 cPt]),(8,45,kSn),(9,48,[.o 58 cKn]),(26,137,kGo 9),(27,130,[.p 26 0 0 0]),(28,49,[.d cI])]
def Bkv:List BK:=[(8,45,kSn),(28,49,[.d cI])]
noncomputable def Vd:Lay2:={ keys:=[0,1,2],ks:=[.y 32,.p 29 0 0 0,.p 30 0 0 0],bs:=Bkt,ls:=[lkR 1],n:=25,nx:=1000,marks:=[],ds:=[31] }
noncomputable def Bgr:Lay2:={ keys:=[],ks:=[],bs:=Bku,ls:=[lkR 1],n:=25,nx:=1000,marks:=[],ds:=[31] }
def Bgs:Lay2:={ keys:=[],ks:=[],bs:=Bkv,ls:=[],n:=25,nx:=1000,marks:=[],ds:=[31] }
noncomputable def Aen:XE→Lay2:=fun e=>match e with | .panic _=>Bgs | _=>Bgr
abbrev Kx:Type:=List (TCT cPt)
structure CR where
 a:SKTs kSn
 e:Int
 b:Int
def ctr (g:Vd.T):CR:=⟨g.2.1.2.2.2.1,g.2.1.2.2.2.2.2.2.2.1.1,g.2.1.1.1⟩
def xtr (g:Vd.T):GB:=(g.2.1.2.2.2.2.2.1,(g.2.1.2.2.2.2.1.1,()),())
def ttr (g:Vd.T):Kx:=g.2.1.2.1.1
def ntr (g:Vd.T):Int:=g.2.1.2.2.2.2.2.2.2.2.2.1.1
noncomputable def B6w (c:CR) (x:GB) (t:Kx) (n:Int):Vd.T:=(((),(),(),()),((c.b,()),(t,()),(((),((),(),())),()),c.a,(x.2.1.1,()),x.1,((),()),(c.e,()),((),()),(n,()),()),lsP 1)
noncomputable def Au4 (c:CR) (r:GB×Kx):Bgr.T:=((),((r.2,()),c.a,(r.1.2.1.1,()),r.1.1,((),()),(c.e,()),()),lsP 1)
def Au5 (c:CR):Bgs.T:=((),(c.a,(c.e,()),()),())
abbrev TTr:=Tree (Vd.T⊕Es Aen)
noncomputable def B6x (c:CR) (r:GB×Kx):TTr:=.need (I9 [lkR 1]) (.leaf (.inr ⟨.exit 0,Au4 c r⟩))
noncomputable def B6y (c:CR) (e:Int):TTr:=.need (I9 []) (.leaf (.inr ⟨.panic (.ifc 49 (.int .i64 e)),Au5 c⟩))
def atP (x:GB) (b:Int):TCT cPt:=((A8 (gmM x.1) (Int.toNat b)).1.1,(A8 (gmM x.1) (Int.toNat b)).1.2.1,())
def apP {β:Type} (t:Kx) (p:TCT cPt) (k:Tree β):Tree β:=bif Eu t [p] 16 then k else .fail
theorem Au6 {β:Type} {t:Kx} {p:TCT cPt} {k:Tree β} (h:t.length≤10000):apP t p k=k:=by
 unfold apP
 rw [Ng (by simp;omega) (by decide)];rfl
def inM {β:Type} (x:GB) (b:Int) (k:Tree β):Tree β:=inN (gmM x.1).length b (bif decide (Int.toNat b<(gmM x.1).length) then k else .fail)
theorem Au7 {β:Type} {x:GB} {b:Int} {k:Tree β} {n:Nat} (h:0≤b∧b<(n:Int)) (hl:(gmM x.1).length=n):inM x b k=k:=by
 unfold inM
 rw [E2 (by rw [hl];exact h),decide_eq_true (show Int.toNat b<(gmM x.1).length by omega)];rfl
noncomputable def Rl (Y:Y2) (c:CR) (x:GB) (t:Kx) (n:Int):TTr:=bif decide (((gk x).length:Int)>4096) then B6y c 6 else inM x c.b (apP t (atP x c.b) (bif decide (n>0) then bif !C2 (stG x.1) then thY (Y x) z2 (B6y c) fun s=>.need (I9 [lkR 1]) (.leaf (.inl (B6w c (xT x s) (t++[atP x c.b]) (W64 (n-1))))) else B6x c (x,t++[atP x c.b]) else B6x c (x,t++[atP x c.b])))
theorem Bkw (Y:Y2) (g:Vd.T):evC Tryz.prog (E1 (Aem Y) 9) (Aem Y).pures 141 (Aem Y).u (fun _=>none) Yb (Vd.of g) (H7 Vd Aen)=Rl Y (ctr g) (xtr g) (ttr g) (ntr g):=by kernel_rfl
def plTr (b:Int):Nat→GB→Kx→(GB×Kx)⊕Int
 | 0,x,t=>bif decide (((gk x).length:Int)>4096) then .inr 6 else .inl (x,t++[atP x b])
 | n+1,x,t=>bif decide (((gk x).length:Int)>4096) then .inr 6 else bif !C2 (stG x.1) then match tkF (ctG x.1) (gs x) with
  | .inl s=>plTr b n (xT x s) (t++[atP x b])
  | .inr e=>.inr e
  else .inl (x,t++[atP x b])
abbrev YT:Type:=GB→Int→Int→Kx→Option ((GB×Kx)⊕Int)
def A9y (x:GB) (b n:Int) (t:Kx):Option ((GB×Kx)⊕Int):=bif A9v x n&&(decide (0≤b∧b<(nBx x.1:Int))&&decide (t.length≤5000)) then some (plTr b (Int.toNat n) x t) else none
noncomputable def Bb8 (Y:YT):Vd.T→Tree (Es Aen):=Aio 49 .i64 (fun g=>Y (xtr g) (ctr g).b (ntr g) (ttr g)) (fun g=>Au4 (ctr g)) (fun g _=>Au5 (ctr g)) (zGB,[])
noncomputable def B6z (Y:YT):St→Tree (XE×St):=H8 Vd Aen (Bb8 Y)
theorem Aiu (c:CR) {R:Es Aen→Prop}:∀ (n:Nat) (x:GB) (t:Kx),n≤4000→OkGM x.1→(gmP x.1).length≤1000→(0≤c.b∧c.b<(nBx x.1:Int))→t.length+n≤10000→R (match plTr c.b n x t with
  | .inl r=>⟨.exit 0,Au4 c r⟩
  | .inr e=>⟨.panic (.ifc 49 (.int .i64 e)),Au5 c⟩)→Wt Vd Aen (fun g=>Rl Jo (ctr g) (xtr g) (ttr g) (ntr g)) R (n+1) (B6w c x t n)
 | 0,x,t,_,h,hp,hb,ht,hR=>by
  intro _
  show (Rl Jo c x t ((0:Nat):Int)).sat _
  unfold Rl
  unfold plTr at hR
  rw [Au7 hb h.ms,Au6 (by omega)]
  cases hm:decide (((gk x).length:Int)>4096) with
  | true=>rw [hm] at hR;exact ⟨trivial,fun _=>hR⟩
  | false =>
   rw [hm] at hR
   exact ⟨Dz _,fun _=>hR⟩
 | n+1,x,t,hn,h,hp,hb,ht,hR=>by
  intro _
  show (Rl Jo c x t ((n+1:Nat):Int)).sat _
  unfold Rl
  unfold plTr at hR
  rw [Au7 hb h.ms,Au6 (by omega)]
  cases hm:decide (((gk x).length:Int)>4096) with
  | true=>rw [hm] at hR;exact ⟨trivial,fun _=>hR⟩
  | false =>
   rw [hm] at hR
   simp only [cond_false] at hR ⊢
   rw [decide_eq_true (show ((n+1:Nat):Int)>0 by omega),cond_true]
   cases hs:C2 (stG x.1) with
   | true=>rw [hs] at hR;exact ⟨Dz _,fun _=>hR⟩
   | false =>
    rw [hs] at hR
    simp only [Bool.not_false,cond_true] at hR ⊢
    have hk:=of_decide_eq_false hm
    have hy:Jo x=some (tkF (ctG x.1) (gs x)):=by
     unfold Jo
     rw [show A2f x=true by
      unfold A2f A2e Ov
      simp only [Bool.and_eq_true,decide_eq_true_eq]
      exact ⟨⟨⟨Ej.2 h,by omega⟩,hp⟩,by omega⟩]
     rfl
    cases hf:tkF (ctG x.1) (gs x) with
    | inr e=>rw [hf] at hy hR;rw [Qs hy];exact ⟨trivial,fun _=>hR⟩
    | inl s =>
     rw [hf] at hy hR
     rw [Qr hy,show W64 (((n+1:Nat):Int)-1)=(n:Int) by rw [show ((n+1:Nat):Int)-1=(n:Int) by omega];exact Bi (by omega) (by omega)]
     exact ⟨Dz _,Aiu c n (xT x s) (t++[atP x c.b]) (by omega) (Air h hp hf) hp hb (by rw [List.length_append,List.length_singleton];omega) hR⟩
theorem Bkx:Bc Tryz.prog 141 Yb (B6z A9y):=A3n Aip 9 _ Vd Aen (fun e=>by cases e <;> exact Nat.le_refl _) _ _ _ _ _ _ (fun g=>Rl Jo (ctr g) (xtr g) (ttr g) (ntr g)) (Bkw Jo) fun g z _ hz=>by
 unfold A9y at hz
 cases ho:A9v (xtr g) (ntr g)&&(decide (0≤(ctr g).b∧(ctr g).b<(nBx (xtr g).1:Int))&&decide ((ttr g).length≤5000)) with
 | false=>rw [ho] at hz;cases hz
 | true =>
  rw [ho] at hz
  cases hz
  simp only [Bool.and_eq_true,decide_eq_true_eq] at ho
  obtain ⟨h1,h2,h3⟩:=A9x ho.1
  refine ⟨Int.toNat (ntr g)+1,fun R hR=>?_⟩
  have:=Aiu (ctr g) (R:=R) (Int.toNat (ntr g)) (xtr g) (ttr g) (by omega) h1 h2 ho.2.1 (by omega) (by
   revert hR
   cases plTr (ctr g).b (Int.toNat (ntr g)) (xtr g) (ttr g) <;> exact id)
  rw [Int.toNat_of_nonneg h3.1] at this
  exact this
end St
end V
end Go.Proofs.YtcfanlgpkefogaaGreat
namespace Go.Proofs.YtcfanlgpkefogaaGreat
open Go.RowKit
namespace V
namespace St
noncomputable def Bgt (Y:YT):Ctx:=Ua Tryz.prog plTk B24 [((141,0),B6z Y)] []
theorem B2c:CtxOk (Bgt A9y):=Gn Aw puTk A61 (Bj (Br (by kernel_rfl)) (Bj (Br (by kernel_rfl)) (Bj (Br (by kernel_rfl)) (Bj (Jd (ds:=[Yb]) (by kernel_rfl) ⟨Hh (k:=0) (by kernel_rfl) rfl Bkx,trivial⟩) (Bj (Br (by kernel_rfl)) (Bj (Br (by kernel_rfl)) (Bj (Br (by kernel_rfl)) (Bj (Br (by kernel_rfl)) (Bj (Br (by kernel_rfl)) (Bj (Br (by kernel_rfl)) (Bj (Br (by kernel_rfl)) (Bj (Br (by kernel_rfl)) (Bj (Br (by kernel_rfl)) (Bj (Br (by kernel_rfl)) Gk)))))))))))))) (fun p hp=>nomatch hp)
abbrev TrR:Type:=TCTs [.sl cPt,cI]
abbrev Bb9:=Tree TrR
def A3o (e:Int):Bb9:=.leaf ([],e,())
def Bgu (y:Option ((GB×Kx)⊕Int)):Bb9:=thY y (zGB,[]) (fun e=>bif e != 0 then bif e != 0 then A3o e else .fail else .fail) fun r=>.leaf (r.2,0,())
noncomputable def B2d (Y:YT) (g:TCT cGr) (s:TCT cSt) (b n:Int):Bb9:=szT g.1 (bif Db g s != 0 then A3o (Db g s) else bif decide (b<0) then A3o 3 else bif decide (b≥((A3 g).length:Int)) then A3o 3 else bif decide (n<0) then A3o 3 else bif decide (n>4000) then A3o 3 else szT g.1 (neT (msT s) (acT (msT s) 48 (neT (osT s) (acT (osT s) 1 (.need (I9 [lkR 1]) (Bgu (Y (gT g s) b n []))))))))
theorem B2e (Y:YT) (x:TCTs [cGr,cSt,cI,cI]):E1 (Bgt Y) 9 (.fn 29) (Eg [cGr,cSt,cI,cI] x) Ck 0 (If Tryz.prog [.sl cPt,cI])=B2d Y x.1 x.2.1 x.2.2.1 x.2.2.2.1:=by kernel_rfl
def Au8:(GB×Kx)⊕Int→TrR
 | .inl r=>(r.2,0,())
 | .inr e=>([],e,())
def TrackV (g:TCT cGr) (s:TCT cSt) (b n:Int):TrR:=bif Db g s != 0 then ([],Db g s,()) else bif decide (b<0)||(decide (b≥((A3 g).length:Int))||(decide (n<0)||decide (n>4000))) then ([],3,()) else Au8 (plTr b (Int.toNat n) (gT g s) [])
theorem plTr_ne {b:Int}:∀ (n:Nat) (x:GB) (t:Kx) (e:Int),plTr b n x t=.inr e→e≠0
 | 0,x,t,e,h=>by
  unfold plTr at h
  cases hm:decide (((gk x).length:Int)>4096) with
  | true=>rw [hm] at h;cases h;decide
  | false=>rw [hm] at h;cases h
 | n+1,x,t,e,h=>by
  unfold plTr at h
  cases hm:decide (((gk x).length:Int)>4096) with
  | true=>rw [hm] at h;cases h;decide
  | false =>
   rw [hm] at h
   cases hs:C2 (stG x.1) with
   | true=>rw [hs] at h;cases h
   | false =>
    rw [hs] at h
    simp only [cond_false,Bool.not_false,cond_true] at h
    cases ht:tkF (ctG x.1) (gs x) with
    | inr e'=>rw [ht] at h;cases h;exact Aee ht
    | inl s=>rw [ht] at h;exact plTr_ne n _ _ e h
abbrev Au9 (r:TrR):TrR:=(r.1,r.2.1,())
abbrev Aua:PureT:=Bz [cGr,cSt,cI,cI] [.sl cPt,cI] (fun x=>decide ((x.1.1.1.size:Int)≤Bo .i64)) (fun x=>Au9 (TrackV x.1 x.2.1 x.2.2.1 x.2.2.2.1))
theorem B2f {g:TCT cGr} {s:TCT cSt} {b n:Int} (hs:(g.1.1.size:Int)≤Bo .i64):(B2d A9y g s b n).sat (fun y=>y=Au9 (TrackV g s b n)):=by
 unfold B2d TrackV
 rw [Dh hs,Dh hs]
 cases h1:Db g s != 0 with
 | true=>exact rfl
 | false =>
  have h:=Zj (bne_eq_false_iff_eq.1 h1)
  have hn1:=h.n1
  have hn8:=h.n8
  have hm:=h.m
  have ho:=h.o
  simp only [cond_false]
  cases h4:decide (b<0) with
  | true=>exact rfl
  | false =>
   cases h5:decide (b≥((A3 g).length:Int)) with
   | true=>exact rfl
   | false =>
    cases h2:decide (n<0) with
    | true=>exact rfl
    | false =>
     cases h3:decide (n>4000) with
     | true=>exact rfl
     | false =>
      have a2:=of_decide_eq_false h2
      have a3:=of_decide_eq_false h3
      have a4:=of_decide_eq_false h4
      have a5:=of_decide_eq_false h5
      simp only [cond_false,Bool.or_false]
      rw [Ow (by omega),Ox (by omega) (by decide),Ow (by omega),Ox (by omega) (by decide)]
      refine ⟨Dz _,?_⟩
      have hy:A9y (gT g s) b n []=some (plTr b (Int.toNat n) (gT g s) []):=by
       unfold A9y
       rw [Ait hs h ⟨by omega,by omega⟩,Bool.true_and,decide_eq_true (show 0≤b∧b<(nBx (gT g s).1:Int) from ⟨by omega,by show b<((A3 g).length:Int);omega⟩)]
       rfl
      unfold Bgu
      cases hf:plTr b (Int.toNat n) (gT g s) [] with
      | inl x=>rw [hf] at hy;rw [Qr hy];exact rfl
      | inr e=>rw [hf] at hy;rw [Qs hy,show (e != 0)=true from bne_iff_ne.2 (plTr_ne _ _ _ _ hf)];exact rfl
theorem Aub:A5 Tryz.prog 29 Aua:=C5 B2c 9 (fun x=>B2d A9y x.1 x.2.1 x.2.2.1 x.2.2.2.1) (B2e A9y) fun _ hok _=>B2f (of_decide_eq_true hok)
end St
end V
end Go.Proofs.YtcfanlgpkefogaaGreat
