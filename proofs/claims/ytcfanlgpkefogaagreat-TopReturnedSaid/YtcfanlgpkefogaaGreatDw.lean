import Derived.Test.YtcfanlgpkefogaaGreatCq
namespace Go.Proofs.YtcfanlgpkefogaaGreat
open Go.RowKit
namespace V
def Auz {L:Lay2} {E:XE→Lay2} {A:Type} (t:TypeId) (k:IntKind) (Y:L.T→Option (A⊕Int)) (mk:L.T→A→(E (.exit 0)).T) (pn:L.T→(n:Int)→(E (.panic (.ifc t (.int k n)))).T) (d:A) (g:L.T):Tree (E2 E) :=
 .br (isL (Y g)) (.leaf ⟨.exit 0,mk g (gL d (Y g))⟩) (.br (isR (Y g)) (.leaf ⟨.panic (.ifc t (.int k (gR 0 (Y g)))),pn g (gR 0 (Y g))⟩) .fail)
def Bh4 {L:Lay2} {E:XE→Lay2} {A:Type} (t:TypeId) (k:IntKind) (mk:L.T→A→(E (.exit 0)).T) (pn:L.T→(n:Int)→(E (.panic (.ifc t (.int k n)))).T) (g:L.T):A⊕Int→E2 E
 | .inl a=>⟨.exit 0,mk g a⟩
 | .inr e=>⟨.panic (.ifc t (.int k e)),pn g e⟩
theorem Amq {X:Ctx} (hX:CtxOk X) (m:Nat) (fn:FuncId) {c:Code} (L:Lay2) (E:XE→Lay2) (hE:∀ e,L.nx≤(E e).nx) {A:Type} (t:TypeId) (k:IntKind) (Y:L.T→Option (A⊕Int)) (mk:L.T→A→(E (.exit 0)).T) (pn:L.T→(n:Int)→(E (.panic (.ifc t (.int k n)))).T) (d:A) (step:L.T→Tree (L.T⊕E2 E))
  (hstep:∀ g,evC X.P (Dx X m) X.pures fn X.u (fun _=>none) c (L.of g) (H7 L E)=step g)
  (hfin:∀ g z,L.WF g→Y g=some z→∃ n,∀ R:E2 E→Prop,R (Bh4 t k mk pn g z)→Ua L E step R n g):Bb X.P fn c (Gf L E (Auz t k Y mk pn d)):=by
 refine Nn hX m fn (fun _=>none) (fun _ _ f h=>by simp at h) L E hE (Auz t k Y mk pn d) step hstep ?_
 intro g R hw hf
 obtain ⟨h1,h2⟩:=hf
 cases hY:Y g with
 | none =>
  rw [hY] at h2
  exact ((h2 rfl).2 rfl).elim
 | some z =>
  obtain ⟨n,hn⟩:=hfin g z hw hY
  refine ⟨n,hn R ?_⟩
  rw [hY] at h1 h2
  cases z with
  | inl a=>exact h1 rfl
  | inr e=>exact (h2 rfl).1 rfl
namespace St
theorem is_srun:FnIs Tryz.prog (63,Tryz.f63):=⟨Tryz.func63,by kernel_rfl,by kernel_rfl⟩
theorem is_srun2:FnIs Tryz.prog (108,Tryz.f108):=⟨Tryz.func108,by kernel_rfl,by kernel_rfl⟩
theorem is_sticks:FnIs Tryz.prog (109,Tryz.f109):=⟨Tryz.func109,by kernel_rfl,by kernel_rfl⟩
theorem is_sticks1:FnIs Tryz.prog (141,Tryz.f141):=⟨Tryz.func141,by kernel_rfl,by kernel_rfl⟩
theorem is_sPlay:FnIs Tryz.prog (21,Tryz.f21):=⟨Tryz.func21,by kernel_rfl,by kernel_rfl⟩
theorem is_sPlay1:FnIs Tryz.prog (64,Tryz.f64):=⟨Tryz.func64,by kernel_rfl,by kernel_rfl⟩
theorem is_sTrack:FnIs Tryz.prog (29,Tryz.f29):=⟨Tryz.func29,by kernel_rfl,by kernel_rfl⟩
theorem is_sTrack1:FnIs Tryz.prog (80,Tryz.f80):=⟨Tryz.func80,by kernel_rfl,by kernel_rfl⟩
noncomputable def Bbm:List (Nat×Func):=[(63,Tryz.f63),(108,Tryz.f108),(109,Tryz.f109),(141,Tryz.f141),(45,Tryz.f45),(47,Tryz.f47),(97,Tryz.f97),(49,Tryz.f49),(95,Tryz.f95),(96,Tryz.f96),(21,Tryz.f21),(64,Tryz.f64),(29,Tryz.f29),(80,Tryz.f80)]
theorem Ajh:∀ p ∈ Bbm,FnIs Tryz.prog p:=fns_cons is_srun (fns_cons is_srun2 (fns_cons is_sticks (fns_cons is_sticks1 (fns_cons is_newGame (fns_cons is_sTry (fns_cons is_sTry1 (fns_cons is_must (fns_cons is_clMot (fns_cons is_clBool (fns_cons is_sPlay (fns_cons is_sPlay1 (fns_cons is_sTrack (fns_cons is_sTrack1 A0)))))))))))))
noncomputable def Aho:Code:=(As (bodyOf Tryz.f141)).getD 0 .skip
abbrev kGo (k:Nat):List SK:=[.d .s,.d cI,.d cI,.d cI,.d (.sl C9),.d cI,.d cI,.d cI,.d cI,.d cI,.d (.sl De),.d (.sl A3),.d cI,.d cI,.d (.sl A2),.o 60 Bd,.o 4 .b,.d cI,.d cI,.d cI,.d cI,.f 107 [] [.p k 0 0 0]]
abbrev kSn:List SK:=[.o 60 Bd,.o 4 .b,.d cI,.d cI,.d cI]
noncomputable def lkR (o:Nat):LK:={ id:=o+31,keys:=[2,3],ks:=[.p (o+8) 0 0 0,.p (o+6) 0 0 0],n:=16,fn:=108,params:=[8],assign:=(rangeAt Tryz.f108 0).1,body:=(rangeAt Tryz.f108 0).2,df:=o+30,st:=some 0 }
def Blj:List BK:=[(2,45,kSn),(6,151,[.f 64 [] []]),(7,45,kSn),(8,48,[.o 58 cKn]),(25,137,kGo 8),(26,130,[.p 25 0 0 0]),(27,49,[.d cI]),(28,130,[.p 25 0 0 0]),(29,3,[.d cI])]
def Bll:List BK:=[(2,45,kSn),(7,45,kSn),(8,48,[.o 58 cKn]),(25,137,kGo 8),(26,130,[.p 25 0 0 0]),(27,49,[.d cI])]
def Blm:List BK:=[(2,45,kSn),(7,45,kSn),(27,49,[.d cI])]
noncomputable def Xl:Lay2:={ keys:=[0,1,2],ks:=[.y 31,.p 28 0 0 0,.p 29 0 0 0],bs:=Blj,ls:=[lkR 0],n:=25,nx:=1000,marks:=[],ds:=[30] }
noncomputable def Bh5:Lay2:={ keys:=[],ks:=[],bs:=Bll,ls:=[lkR 0],n:=25,nx:=1000,marks:=[],ds:=[30] }
def Bh6:Lay2:={ keys:=[],ks:=[],bs:=Blm,ls:=[],n:=25,nx:=1000,marks:=[],ds:=[30] }
noncomputable def Af0:XE→Lay2:=fun e=>match e with | .panic _=>Bh6 | _=>Bh5
noncomputable def B2u (Y:Y2):Ctx:=W9 Tryz.prog plTk Bbm [] [(54,spYT 107 Y)]
theorem B2v:CtxOk (B2u O9):=Hi Aw puTk Ajh Ir (fun p hp=>by
 rw [List.mem_singleton] at hp;subst hp;exact ⟨is_gtick.plain,B2e⟩)
noncomputable def lsP (o:Nat):LTs [lkR o]:=(((((),(),()):SKTs (lkR o).ks),((():Unit):StT (lkR o).st)),())
structure CP where
 a:SKTs kSn
 b:SKTs kSn
 e:Int
def cpl (g:Xl.T):CP:=⟨g.2.1.1,g.2.1.2.2.1,g.2.1.2.2.2.2.2.2.1.1⟩
def xpl (g:Xl.T):GB:=(g.2.1.2.2.2.2.1,(g.2.1.2.2.2.1.1,()),())
def npl (g:Xl.T):Int:=g.2.1.2.2.2.2.2.2.2.2.1.1
noncomputable def B7q (c:CP) (x:GB) (n:Int):Xl.T:=(((),(),(),()),(c.a,(((),()),()),c.b,(x.2.1.1,()),x.1,((),()),(c.e,()),((),()),(n,()),()),lsP 0)
noncomputable def Av0 (c:CP) (x:GB):Bh5.T:=((),(c.a,c.b,(x.2.1.1,()),x.1,((),()),(c.e,()),()),lsP 0)
def Av1 (c:CP):Bh6.T:=((),(c.a,c.b,(c.e,()),()),())
abbrev TPl:=Tree (Xl.T⊕E2 Af0)
noncomputable def B7r (c:CP) (x:GB):TPl:=.need (I8 [lkR 0]) (.leaf (.inr ⟨.exit 0,Av0 c x⟩))
noncomputable def B7s (c:CP) (e:Int):TPl:=.need (I8 []) (.leaf (.inr ⟨.panic (.ifc 49 (.int .i64 e)),Av1 c⟩))
def stG (m:GM):TCT cSt:=(gmM m,gmO m,gmW m,gmF m,gmT m,())
noncomputable def Rn (Y:Y2) (c:CP) (x:GB) (n:Int):TPl:=bif decide (((gk x).length:Int)>4096) then B7s c 6 else bif decide (n>0) then bif !Dh (stG x.1) then thY (Y x) z2 (B7s c) fun s=>.need (I8 [lkR 0]) (.leaf (.inl (B7q c (xT x s) (W64 (n-1))))) else B7r c x else B7r c x
theorem Bln (Y:Y2) (g:Xl.T):evC Tryz.prog (Dx (B2u Y) 9) (B2u Y).pures 141 (B2u Y).u (fun _=>none) Aho (Xl.of g) (H7 Xl Af0)=Rn Y (cpl g) (xpl g) (npl g):=by kernel_rfl
def plRn:Nat→GB→GB⊕Int
 | 0,x=>bif decide (((gk x).length:Int)>4096) then .inr 6 else .inl x
 | n+1,x=>bif decide (((gk x).length:Int)>4096) then .inr 6 else bif !Dh (stG x.1) then match tkF (ctG x.1) (gs x) with
  | .inl s=>plRn n (xT x s)
  | .inr e=>.inr e
  else .inl x
abbrev YP:Type:=GB→Int→Option (GB⊕Int)
def Amr (x:GB) (n:Int):Bool:=Amf x.1&&(decide ((gmP x.1).length≤1000)&&decide (0≤n∧n≤4000))
def Aac (x:GB) (n:Int):Option (GB⊕Int):=bif Amr x n then some (plRn (Int.toNat n) x) else none
def zGB:GB:=(dflKs (kGm 0),([],()),())
noncomputable def Bbn (Y:YP):Xl.T→Tree (E2 Af0):=Auz 49 .i64 (fun g=>Y (xpl g) (npl g)) (fun g=>Av0 (cpl g)) (fun g _=>Av1 (cpl g)) zGB
noncomputable def B7t (Y:YP):St→Tree (XE×St):=Gf Xl Af0 (Bbn Y)
theorem Aji {l:TCT A5} {os:List Bool} {w fl:Int} {i:Nat} {ms ms':Ax} (h:slE l os w fl i ms=.inl ms'):ms'.length=ms.length:=by
 unfold slE at h
 cases h1:!Cf ms os i||F9 w fl i with
 | true=>rw [h1] at h;cases h;rfl
 | false =>
  rw [h1] at h
  cases h2:G5 l (A8 ms i).1 != 0 with
  | true=>rw [h2] at h;cases h
  | false =>
   rw [h2] at h
   cases h3:(M9 l (A8 ms i)).2.1 != 0 with
   | true=>rw [h3] at h;cases h
   | false=>rw [h3] at h;cases h;exact Bw _ _ _
theorem B2w {k:CT} {s s':S2} (hn:k.bl.length≤8) (hp:k.ps.length≤1000) (hm:s.1.length=k.bl.length) (ho:s.2.1.length=k.bl.length) (h:tkF k s=.inl s'):s'.1.length=k.bl.length∧s'.2.1.length=k.bl.length:=by
 unfold tkF at h
 cases h0:k.t==4000 with
 | true=>rw [h0] at h;cases h
 | false =>
  rw [h0] at h
  simp only [cond_false] at h
  cases h1:B6 (slE k.l s.2.1 k.w k.fl) 0 k.bl.length s.1 with
  | inr e=>rw [h1] at h;cases h
  | inl ms =>
   rw [h1] at h
   have a:ms.length=k.bl.length:=Bf (n:=k.bl.length) (Inv:=fun _ (s:Ax)=>s.length=k.bl.length) (fun i s s' _ hl h=>(Aji h).trans hl) k.bl.length 0 _ _ (by omega) hm h1
   have h2:B6 (tkE k) 0 16 (ms,s.2.1,s.2.2)=.inl s':=h
   have b:Inv2 k.bl.length (s.2.2.length+16*8072) 0 s':=Bf (n:=16) (Inv:=fun i s2=>Inv2 k.bl.length (s.2.2.length+i*8072) 0 s2) (fun i s s' hi hs h=>A68 (m:=16) hn hp i s s' hi hs h) 16 0 (ms,s.2.1,s.2.2) s' (by omega) ⟨a,ho,by show s.2.2.length≤s.2.2.length+0*8072+0;omega⟩ h2
   exact ⟨b.m,b.o⟩
theorem B2x {x:GB} {s:S2} (h:OkGM x.1) (hp:(gmP x.1).length≤1000) (ht:tkF (ctG x.1) (gs x)=.inl s):OkGM (xT x s).1:=by
 have a:=B2w (k:=ctG x.1) h.n hp h.ms h.os ht
 exact F4.1 (F4.2 ⟨h.sz,a.1,a.2,h.n⟩)
theorem Ajj (c:CP) {R:E2 Af0→Prop}:∀ (n:Nat) (x:GB),n≤4000→OkGM x.1→(gmP x.1).length≤1000→R (match plRn n x with
  | .inl x'=>⟨.exit 0,Av0 c x'⟩
  | .inr e=>⟨.panic (.ifc 49 (.int .i64 e)),Av1 c⟩)→Ua Xl Af0 (fun g=>Rn O9 (cpl g) (xpl g) (npl g)) R (n+1) (B7q c x n)
 | 0,x,_,h,hp,hR=>by
  intro _
  show (Rn O9 c x ((0:Nat):Int)).sat _
  unfold Rn
  unfold plRn at hR
  cases hm:decide (((gk x).length:Int)>4096) with
  | true=>rw [hm] at hR;exact ⟨trivial,fun _=>hR⟩
  | false =>
   rw [hm] at hR
   exact ⟨Dj _,fun _=>hR⟩
 | n+1,x,hn,h,hp,hR=>by
  intro _
  show (Rn O9 c x ((n+1:Nat):Int)).sat _
  unfold Rn
  unfold plRn at hR
  cases hm:decide (((gk x).length:Int)>4096) with
  | true=>rw [hm] at hR;exact ⟨trivial,fun _=>hR⟩
  | false =>
   rw [hm] at hR
   simp only [cond_false] at hR ⊢
   rw [decide_eq_true (show ((n+1:Nat):Int)>0 by omega),cond_true]
   cases hs:Dh (stG x.1) with
   | true=>rw [hs] at hR;exact ⟨Dj _,fun _=>hR⟩
   | false =>
    rw [hs] at hR
    simp only [Bool.not_false,cond_true] at hR ⊢
    have hk:=of_decide_eq_false hm
    have hy:O9 x=some (tkF (ctG x.1) (gs x)):=by
     unfold O9
     rw [show Aa6 x=true by
      unfold Aa6 A65 Qj
      simp only [Bool.and_eq_true,decide_eq_true_eq]
      exact ⟨⟨⟨F4.2 h,by omega⟩,hp⟩,by omega⟩]
     rfl
    cases ht:tkF (ctG x.1) (gs x) with
    | inr e=>rw [ht] at hy hR;rw [Wq hy];exact ⟨trivial,fun _=>hR⟩
    | inl s =>
     rw [ht] at hy hR
     rw [Wp hy,show W64 (((n+1:Nat):Int)-1)=(n:Int) by rw [show ((n+1:Nat):Int)-1=(n:Int) by omega];exact Bi (by omega) (by omega)]
     exact ⟨Dj _,Ajj c n (xT x s) (by omega) (B2x h hp ht) hp hR⟩
theorem Av2 {x:GB} {n:Int} (h:Amr x n=true):OkGM x.1∧(gmP x.1).length≤1000∧(0≤n∧n≤4000):=by
 unfold Amr at h
 simp only [Bool.and_eq_true,decide_eq_true_eq] at h
 exact ⟨F4.1 h.1,h.2.1,h.2.2⟩
theorem Blo:Bb Tryz.prog 141 Aho (B7t Aac):=Amq B2v 9 _ Xl Af0 (fun e=>by cases e <;> exact Nat.le_refl _) _ _ _ _ _ _ (fun g=>Rn O9 (cpl g) (xpl g) (npl g)) (Bln O9) fun g z _ hz=>by
 unfold Aac at hz
 cases ho:Amr (xpl g) (npl g) with
 | false=>rw [ho] at hz;cases hz
 | true =>
  rw [ho] at hz
  cases hz
  obtain ⟨h1,h2,h3⟩:=Av2 ho
  refine ⟨Int.toNat (npl g)+1,fun R hR=>?_⟩
  have:=Ajj (cpl g) (R:=R) (Int.toNat (npl g)) (xpl g) (by omega) h1 h2 (by
   revert hR
   cases plRn (Int.toNat (npl g)) (xpl g) <;> exact id)
  rw [Int.toNat_of_nonneg h3.1] at this
  exact this
end St
end V
end Go.Proofs.YtcfanlgpkefogaaGreat
namespace Go.Proofs.YtcfanlgpkefogaaGreat
open Go.RowKit
namespace V
namespace St
noncomputable def Bh7 (Y:YP):Ctx:=W9 Tryz.prog plTk Bbm [((141,0),B7t Y)] []
theorem B2y:CtxOk (Bh7 Aac):=Hi Aw puTk Ajh (Bn (D3 (by kernel_rfl)) (Bn (D3 (by kernel_rfl)) (Bn (D3 (by kernel_rfl)) (Bn (Kk (ds:=[Aho]) (by kernel_rfl) ⟨Hg (k:=0) (by kernel_rfl) rfl Blo,trivial⟩) (Bn (D3 (by kernel_rfl)) (Bn (D3 (by kernel_rfl)) (Bn (D3 (by kernel_rfl)) (Bn (D3 (by kernel_rfl)) (Bn (D3 (by kernel_rfl)) (Bn (D3 (by kernel_rfl)) (Bn (D3 (by kernel_rfl)) (Bn (D3 (by kernel_rfl)) (Bn (D3 (by kernel_rfl)) (Bn (D3 (by kernel_rfl)) (Gi))))))))))))))) (fun p hp=>nomatch hp)
def Bh8 (x:GB):TkR:=(stG x.1,gk x,0,())
def Bh9 (y:Option (GB⊕Int)):TTR:=thY y zGB (fun e=>bif e != 0 then lfT2 (I1 e) else .fail) fun x=>lfT2 (Bh8 x)
where lfT2 (r:TkR):TTR:=.leaf r
noncomputable def B2z (Y:YP) (g:TCT cGr) (s:TCT cSt) (n:Int):TTR:=szT g.1 (bif Fp g s != 0 then .leaf (I1 (Fp g s)) else bif decide (n<0) then .leaf (I1 3) else bif decide (n>4000) then .leaf (I1 3) else szT g.1 (neT (msT s) (acT (msT s) 48 (neT (osT s) (acT (osT s) 1 (.need (I8 [lkR 0]) (Bh9 (Y (gT g s) n))))))))
theorem B30 (Y:YP) (x:TCTs [cGr,cSt,cI]):Dx (Bh7 Y) 9 (.fn 21) (E7 [cGr,cSt,cI] x) Ce 0 (J3 Tryz.prog [cSt,.sl cKn,cI])=B2z Y x.1 x.2.1 x.2.2.1:=by kernel_rfl
theorem B31 {g:TCT cGr} {s:TCT cSt} {n:Int} (hs:(g.1.1.size:Int)≤Bl .i64) (h:StaOk g s) (hn:0≤n∧n≤4000):Amr (gT g s) n=true:=by
 have a:=Ajb hs h
 have b:=Aa7 a
 unfold Amr
 simp only [Bool.and_eq_true,decide_eq_true_eq]
 exact ⟨F4.2 b.1,b.2.2,hn⟩
def Ams:GB⊕Int→TkR
 | .inl x=>Bh8 x
 | .inr e=>I1 e
def PlayV (g:TCT cGr) (s:TCT cSt) (n:Int):TkR:=bif Fp g s != 0 then I1 (Fp g s) else bif decide (n<0)||decide (n>4000) then I1 3 else Ams (plRn (Int.toNat n) (gT g s))
theorem plRn_ne:∀ (n:Nat) (x:GB) (e:Int),plRn n x=.inr e→e≠0
 | 0,x,e,h=>by
  unfold plRn at h
  cases hm:decide (((gk x).length:Int)>4096) with
  | true=>rw [hm] at h;cases h;decide
  | false=>rw [hm] at h;cases h
 | n+1,x,e,h=>by
  unfold plRn at h
  cases hm:decide (((gk x).length:Int)>4096) with
  | true=>rw [hm] at h;cases h;decide
  | false =>
   rw [hm] at h
   cases hs:Dh (stG x.1) with
   | true=>rw [hs] at h;cases h
   | false =>
    rw [hs] at h
    simp only [cond_false,Bool.not_false,cond_true] at h
    cases ht:tkF (ctG x.1) (gs x) with
    | inr e'=>rw [ht] at h;cases h;exact Aun ht
    | inl s=>rw [ht] at h;exact plRn_ne n _ e h
abbrev B32:PureT:=Bv [cGr,cSt,cI] [cSt,.sl cKn,cI] (fun x=>decide ((x.1.1.1.size:Int)≤Bl .i64)) (fun x=>Zy (PlayV x.1 x.2.1 x.2.2.1))
theorem B33 {g:TCT cGr} {s:TCT cSt} {n:Int} (hs:(g.1.1.size:Int)≤Bl .i64):(B2z Aac g s n).sat (fun y=>y=Zy (PlayV g s n)):=by
 unfold B2z PlayV
 rw [Dg hs,Dg hs]
 cases h1:Fp g s != 0 with
 | true=>exact rfl
 | false =>
  have h:=A69 (bne_eq_false_iff_eq.1 h1)
  have hn1:=h.n1
  have hn8:=h.n8
  have hm:=h.m
  have ho:=h.o
  simp only [cond_false]
  cases h2:decide (n<0) with
  | true=>exact rfl
  | false =>
   cases h3:decide (n>4000) with
   | true=>exact rfl
   | false =>
    have a2:=of_decide_eq_false h2
    have a3:=of_decide_eq_false h3
    simp only [cond_false,Bool.or_false]
    rw [Vj (by omega),Vk (by omega) (by decide),Vj (by omega),Vk (by omega) (by decide)]
    refine ⟨Dj _,?_⟩
    have hy:Aac (gT g s) n=some (plRn (Int.toNat n) (gT g s)):=by
     unfold Aac
     rw [B31 hs h ⟨by omega,by omega⟩];rfl
    unfold Bh9
    cases hf:plRn (Int.toNat n) (gT g s) with
    | inl x=>rw [hf] at hy;rw [Wp hy];exact rfl
    | inr e=>rw [hf] at hy;rw [Wq hy,show (e != 0)=true from bne_iff_ne.2 (plRn_ne _ _ _ hf)];exact rfl
theorem B34:A7 Tryz.prog 21 B32:=C0 B2y 9 (fun x=>B2z Aac x.1 x.2.1 x.2.2.1) (B30 Aac) fun _ hok _=>B33 (of_decide_eq_true hok)
end St
end V
end Go.Proofs.YtcfanlgpkefogaaGreat
namespace Go.Proofs.YtcfanlgpkefogaaGreat
open Go.RowKit
namespace V
namespace St
end St
end V
end Go.Proofs.YtcfanlgpkefogaaGreat
namespace Go.Proofs.YtcfanlgpkefogaaGreat
open Go.RowKit
namespace V
namespace St
end St
end V
end Go.Proofs.YtcfanlgpkefogaaGreat
