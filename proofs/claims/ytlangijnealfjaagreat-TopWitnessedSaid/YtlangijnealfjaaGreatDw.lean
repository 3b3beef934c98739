import Derived.Test.YtlangijnealfjaaGreatCq
namespace Go.Proofs.YtlangijnealfjaaGreat
open Go.RowKit
namespace V
def Art {L:Lay2} {E:XE→Lay2} {A:Type} (t:TypeId) (k:IntKind) (Y:L.T→Option (A⊕Int)) (mk:L.T→A→(E (.exit 0)).T) (pn:L.T→(n:Int)→(E (.panic (.ifc t (.int k n)))).T) (d:A) (g:L.T):Tree (F6 E) :=
 .br (isL (Y g)) (.leaf ⟨.exit 0,mk g (gL d (Y g))⟩) (.br (isR (Y g)) (.leaf ⟨.panic (.ifc t (.int k (gR 0 (Y g)))),pn g (gR 0 (Y g))⟩) .fail)
def Bej {L:Lay2} {E:XE→Lay2} {A:Type} (t:TypeId) (k:IntKind) (mk:L.T→A→(E (.exit 0)).T) (pn:L.T→(n:Int)→(E (.panic (.ifc t (.int k n)))).T) (g:L.T):A⊕Int→F6 E
 | .inl a=>⟨.exit 0,mk g a⟩
 | .inr e=>⟨.panic (.ifc t (.int k e)),pn g e⟩
theorem Akb {X:Ctx} (hX:CtxOk X) (m:Nat) (fn:FuncId) {c:Code} (L:Lay2) (E:XE→Lay2) (hE:∀ e,L.nx≤(E e).nx) {A:Type} (t:TypeId) (k:IntKind) (Y:L.T→Option (A⊕Int)) (mk:L.T→A→(E (.exit 0)).T) (pn:L.T→(n:Int)→(E (.panic (.ifc t (.int k n)))).T) (d:A) (step:L.T→Tree (L.T⊕F6 E))
  (hstep:∀ g,evC X.P (D1 X m) X.pures fn X.u (fun _=>none) c (L.of g) (Ho L E)=step g)
  (hfin:∀ g z,L.WF g→Y g=some z→∃ n,∀ R:F6 E→Prop,R (Bej t k mk pn g z)→A0g L E step R n g):Aw X.P fn c (Hp L E (Art t k Y mk pn d)):=by
 refine Qz hX m fn (fun _=>none) (fun _ _ f h=>by simp at h) L E hE (Art t k Y mk pn d) step hstep ?_
 intro g R hw hf
 obtain ⟨h1,h2⟩:=hf
 cases hY:Y g with
 | none =>
  rw [hY] at h2
  exact ((h2 rfl).2 rfl).elim
 | some z =>
  obtain ⟨n,hn⟩:=hfin g z hw hY
  refine ⟨n,hn R ?_⟩
  rw [hY] at h1 h2
  cases z with
  | inl a=>exact h1 rfl
  | inr e=>exact (h2 rfl).1 rfl
namespace St
theorem is_srun:FnIs Tryz.prog (77,Tryz.f77):=⟨Tryz.func77,by kernel_rfl,by kernel_rfl⟩
theorem is_srun2:FnIs Tryz.prog (138,Tryz.f138):=⟨Tryz.func138,by kernel_rfl,by kernel_rfl⟩
theorem is_sticks:FnIs Tryz.prog (139,Tryz.f139):=⟨Tryz.func139,by kernel_rfl,by kernel_rfl⟩
theorem is_sticks1:FnIs Tryz.prog (200,Tryz.f200):=⟨Tryz.func200,by kernel_rfl,by kernel_rfl⟩
theorem is_sPlay:FnIs Tryz.prog (30,Tryz.f30):=⟨Tryz.func30,by kernel_rfl,by kernel_rfl⟩
theorem is_sPlay1:FnIs Tryz.prog (78,Tryz.f78):=⟨Tryz.func78,by kernel_rfl,by kernel_rfl⟩
noncomputable def B8y:List (Nat×Func):=[(77,Tryz.f77),(138,Tryz.f138),(139,Tryz.f139),(200,Tryz.f200),(65,Tryz.f65),(67,Tryz.f67),(128,Tryz.f128),(73,Tryz.f73),(126,Tryz.f126),(127,Tryz.f127),(30,Tryz.f30),(78,Tryz.f78)]
theorem Ah1:∀ p ∈ B8y,FnIs Tryz.prog p:=fns_cons is_srun (fns_cons is_srun2 (fns_cons is_sticks (fns_cons is_sticks1 (fns_cons is_newGame (fns_cons is_sTry (fns_cons is_sTry1 (fns_cons is_must (fns_cons is_clMot (fns_cons is_clBool (fns_cons is_sPlay (fns_cons is_sPlay1 A0)))))))))))
noncomputable def Aru:Code:=(Al (bodyOf Tryz.f200)).getD 0 .skip
abbrev kGo (k:Nat):List SK:=[.d .s,.d cI,.d cI,.d cI,.d (.sl Bv),.d cI,.d cI,.d cI,.d cI,.d cI,.d (.sl D8),.d (.sl A3),.d cI,.d cI,.d (.sl A4),.o 84 B0,.o 4 .b,.d cI,.d cI,.d cI,.d cI,.f 137 [] [.p k 0 0 0]]
abbrev kSn:List SK:=[.o 84 B0,.o 4 .b,.d cI,.d cI,.d cI]
noncomputable def lkR (o:Nat):LK:={ id:=o+31,keys:=[2,3],ks:=[.p (o+8) 0 0 0,.p (o+6) 0 0 0],n:=16,fn:=138,params:=[8],assign:=(rangeAt Tryz.f138 0).1,body:=(rangeAt Tryz.f138 0).2,df:=o+30,st:=some 0 }
def Biv:List BK:=[(2,76,kSn),(6,180,[.f 78 [] []]),(7,76,kSn),(8,79,[.o 101 cKn]),(25,171,kGo 8),(26,164,[.p 25 0 0 0]),(27,39,[.d cI]),(28,164,[.p 25 0 0 0]),(29,3,[.d cI])]
def Biw:List BK:=[(2,76,kSn),(7,76,kSn),(8,79,[.o 101 cKn]),(25,171,kGo 8),(26,164,[.p 25 0 0 0]),(27,39,[.d cI])]
def Bix:List BK:=[(2,76,kSn),(7,76,kSn),(27,39,[.d cI])]
noncomputable def Wo:Lay2:={ keys:=[0,1,2],ks:=[.y 31,.p 28 0 0 0,.p 29 0 0 0],bs:=Biv,ls:=[lkR 0],n:=25,nx:=1000,marks:=[],ds:=[30] }
noncomputable def Bek:Lay2:={ keys:=[],ks:=[],bs:=Biw,ls:=[lkR 0],n:=25,nx:=1000,marks:=[],ds:=[30] }
def Bel:Lay2:={ keys:=[],ks:=[],bs:=Bix,ls:=[],n:=25,nx:=1000,marks:=[],ds:=[30] }
noncomputable def Adc:XE→Lay2:=fun e=>match e with | .panic _=>Bel | _=>Bek
noncomputable def Azx (Y:Y2):Ctx:=Wq Tryz.prog plTk B8y [] [(68,spYT 137 Y)]
theorem Azy:CtxOk (Azx Yk):=Hr Ak puTk Ah1 Ly (fun p hp=>by
 rw [List.mem_singleton] at hp;subst hp;exact ⟨is_gtick.plain,Azm⟩)
noncomputable def lsP (o:Nat):LTs [lkR o]:=(((((),(),()):SKTs (lkR o).ks),((():Unit):StT (lkR o).st)),())
structure CP where
 a:SKTs kSn
 b:SKTs kSn
 e:Int
def cpl (g:Wo.T):CP:=⟨g.2.1.1,g.2.1.2.2.1,g.2.1.2.2.2.2.2.2.1.1⟩
def xpl (g:Wo.T):GB:=(g.2.1.2.2.2.2.1,(g.2.1.2.2.2.1.1,()),())
def npl (g:Wo.T):Int:=g.2.1.2.2.2.2.2.2.2.2.1.1
noncomputable def B53 (c:CP) (x:GB) (n:Int):Wo.T:=(((),(),(),()),(c.a,(((),()),()),c.b,(x.2.1.1,()),x.1,((),()),(c.e,()),((),()),(n,()),()),lsP 0)
noncomputable def Arv (c:CP) (x:GB):Bek.T:=((),(c.a,c.b,(x.2.1.1,()),x.1,((),()),(c.e,()),()),lsP 0)
def Arw (c:CP):Bel.T:=((),(c.a,c.b,(c.e,()),()),())
abbrev TPl:=Tree (Wo.T⊕F6 Adc)
noncomputable def B54 (c:CP) (x:GB):TPl:=.need (Kd [lkR 0]) (.leaf (.inr ⟨.exit 0,Arv c x⟩))
noncomputable def B55 (c:CP) (e:Int):TPl:=.need (Kd []) (.leaf (.inr ⟨.panic (.ifc 39 (.int .i64 e)),Arw c⟩))
def stG (m:GM):TCT cSt:=(gmM m,gmO m,gmW m,gmF m,gmT m,())
noncomputable def Qi (Y:Y2) (c:CP) (x:GB) (n:Int):TPl:=bif decide (((gk x).length:Int)>4096) then B55 c 6 else bif decide (n>0) then bif !D5 (stG x.1) then thY (Y x) z2 (B55 c) fun s=>.need (Kd [lkR 0]) (.leaf (.inl (B53 c (xT x s) (W64 (n-1))))) else B54 c x else B54 c x
theorem Biy (Y:Y2) (g:Wo.T):evC Tryz.prog (D1 (Azx Y) 9) (Azx Y).pures 200 (Azx Y).u (fun _=>none) Aru (Wo.of g) (Ho Wo Adc)=Qi Y (cpl g) (xpl g) (npl g):=by kernel_rfl
def plRn:Nat→GB→GB⊕Int
 | 0,x=>bif decide (((gk x).length:Int)>4096) then .inr 6 else .inl x
 | n+1,x=>bif decide (((gk x).length:Int)>4096) then .inr 6 else bif !D5 (stG x.1) then match tkF (ctG x.1) (gs x) with
  | .inl s=>plRn n (xT x s)
  | .inr e=>.inr e
  else .inl x
abbrev YP:Type:=GB→Int→Option (GB⊕Int)
def Akc (x:GB) (n:Int):Bool:=Ajy x.1&&(decide ((gmP x.1).length≤1000)&&decide (0≤n∧n≤4000))
def A8l (x:GB) (n:Int):Option (GB⊕Int):=bif Akc x n then some (plRn (Int.toNat n) x) else none
def zGB:GB:=(dflKs (kGm 0),([],()),())
noncomputable def B8z (Y:YP):Wo.T→Tree (F6 Adc):=Art 39 .i64 (fun g=>Y (xpl g) (npl g)) (fun g=>Arv (cpl g)) (fun g _=>Arw (cpl g)) zGB
noncomputable def B56 (Y:YP):St→Tree (XE×St):=Hp Wo Adc (B8z Y)
theorem Ah2 {l:TCT Am} {os:List Bool} {w fl:Int} {i:Nat} {ms ms':Au} (h:slE l os w fl i ms=.inl ms'):ms'.length=ms.length:=by
 unfold slE at h
 cases h1:!Cf ms os i||Fi w fl i with
 | true=>rw [h1] at h;cases h;rfl
 | false =>
  rw [h1] at h
  cases h2:Gk l (A9 ms i).1 != 0 with
  | true=>rw [h2] at h;cases h
  | false =>
   rw [h2] at h
   cases h3:(Nq l (A9 ms i)).2.1 != 0 with
   | true=>rw [h3] at h;cases h
   | false=>rw [h3] at h;cases h;exact C0 _ _ _
theorem Azz {k:CT} {s s':S2} (hn:k.bl.length≤8) (hp:k.ps.length≤1000) (hm:s.1.length=k.bl.length) (ho:s.2.1.length=k.bl.length) (h:tkF k s=.inl s'):s'.1.length=k.bl.length∧s'.2.1.length=k.bl.length:=by
 unfold tkF at h
 cases h0:k.t==4000 with
 | true=>rw [h0] at h;cases h
 | false =>
  rw [h0] at h
  simp only [cond_false] at h
  cases h1:Ax (slE k.l s.2.1 k.w k.fl) 0 k.bl.length s.1 with
  | inr e=>rw [h1] at h;cases h
  | inl ms =>
   rw [h1] at h
   have a:ms.length=k.bl.length:=B6 (n:=k.bl.length) (Inv:=fun _ (s:Au)=>s.length=k.bl.length) (fun i s s' _ hl h=>(Ah2 h).trans hl) k.bl.length 0 _ _ (by omega) hm h1
   have h2:Ax (tkE k) 0 16 (ms,s.2.1,s.2.2)=.inl s':=h
   have b:Inv2 k.bl.length (s.2.2.length+16*8072) 0 s':=B6 (n:=16) (Inv:=fun i s2=>Inv2 k.bl.length (s.2.2.length+i*8072) 0 s2) (fun i s s' hi hs h=>A52 (m:=16) hn hp i s s' hi hs h) 16 0 (ms,s.2.1,s.2.2) s' (by omega) ⟨a,ho,by show s.2.2.length≤s.2.2.length+0*8072+0;omega⟩ h2
   exact ⟨b.m,b.o⟩
theorem B00 {x:GB} {s:S2} (h:OkGM x.1) (hp:(gmP x.1).length≤1000) (ht:tkF (ctG x.1) (gs x)=.inl s):OkGM (xT x s).1:=by
 have a:=Azz (k:=ctG x.1) h.n hp h.ms h.os ht
 exact Et.1 (Et.2 ⟨h.sz,a.1,a.2,h.n⟩)
theorem Ah3 (c:CP) {R:F6 Adc→Prop}:∀ (n:Nat) (x:GB),n≤4000→OkGM x.1→(gmP x.1).length≤1000→R (match plRn n x with
  | .inl x'=>⟨.exit 0,Arv c x'⟩
  | .inr e=>⟨.panic (.ifc 39 (.int .i64 e)),Arw c⟩)→A0g Wo Adc (fun g=>Qi Yk (cpl g) (xpl g) (npl g)) R (n+1) (B53 c x n)
 | 0,x,_,h,hp,hR=>by
  intro _
  show (Qi Yk c x ((0:Nat):Int)).sat _
  unfold Qi
  unfold plRn at hR
  cases hm:decide (((gk x).length:Int)>4096) with
  | true=>rw [hm] at hR;exact ⟨trivial,fun _=>hR⟩
  | false =>
   rw [hm] at hR
   exact ⟨Ew _,fun _=>hR⟩
 | n+1,x,hn,h,hp,hR=>by
  intro _
  show (Qi Yk c x ((n+1:Nat):Int)).sat _
  unfold Qi
  unfold plRn at hR
  cases hm:decide (((gk x).length:Int)>4096) with
  | true=>rw [hm] at hR;exact ⟨trivial,fun _=>hR⟩
  | false =>
   rw [hm] at hR
   simp only [cond_false] at hR ⊢
   rw [decide_eq_true (show ((n+1:Nat):Int)>0 by omega),cond_true]
   cases hs:D5 (stG x.1) with
   | true=>rw [hs] at hR;exact ⟨Ew _,fun _=>hR⟩
   | false =>
    rw [hs] at hR
    simp only [Bool.not_false,cond_true] at hR ⊢
    have hk:=of_decide_eq_false hm
    have hy:Yk x=some (tkF (ctG x.1) (gs x)):=by
     unfold Yk
     rw [show A8e x=true by
      unfold A8e A4z Pw
      simp only [Bool.and_eq_true,decide_eq_true_eq]
      exact ⟨⟨⟨Et.2 h,by omega⟩,hp⟩,by omega⟩]
     rfl
    cases ht:tkF (ctG x.1) (gs x) with
    | inr e=>rw [ht] at hy hR;rw [Yh hy];exact ⟨trivial,fun _=>hR⟩
    | inl s =>
     rw [ht] at hy hR
     rw [Yg hy,show W64 (((n+1:Nat):Int)-1)=(n:Int) by rw [show ((n+1:Nat):Int)-1=(n:Int) by omega];exact Be (by omega) (by omega)]
     exact ⟨Ew _,Ah3 c n (xT x s) (by omega) (B00 h hp ht) hp hR⟩
theorem Arx {x:GB} {n:Int} (h:Akc x n=true):OkGM x.1∧(gmP x.1).length≤1000∧(0≤n∧n≤4000):=by
 unfold Akc at h
 simp only [Bool.and_eq_true,decide_eq_true_eq] at h
 exact ⟨Et.1 h.1,h.2.1,h.2.2⟩
theorem Biz:Aw Tryz.prog 200 Aru (B56 A8l):=Akb Azy 9 _ Wo Adc (fun e=>by cases e <;> exact Nat.le_refl _) _ _ _ _ _ _ (fun g=>Qi Yk (cpl g) (xpl g) (npl g)) (Biy Yk) fun g z _ hz=>by
 unfold A8l at hz
 cases ho:Akc (xpl g) (npl g) with
 | false=>rw [ho] at hz;cases hz
 | true =>
  rw [ho] at hz
  cases hz
  obtain ⟨h1,h2,h3⟩:=Arx ho
  refine ⟨Int.toNat (npl g)+1,fun R hR=>?_⟩
  have:=Ah3 (cpl g) (R:=R) (Int.toNat (npl g)) (xpl g) (by omega) h1 h2 (by
   revert hR
   cases plRn (Int.toNat (npl g)) (xpl g) <;> exact id)
  rw [Int.toNat_of_nonneg h3.1] at this
  exact this
end St
end V
end Go.Proofs.YtlangijnealfjaaGreat
namespace Go.Proofs.YtlangijnealfjaaGreat
open Go.RowKit
namespace V
namespace St
noncomputable def Bem (Y:YP):Ctx:=Wq Tryz.prog plTk B8y [((200,0),B56 Y)] []
theorem B01:CtxOk (Bem A8l):=Hr Ak puTk Ah1 (A8 (Az (by kernel_rfl)) (A8 (Az (by kernel_rfl)) (A8 (Az (by kernel_rfl)) (A8 (E6 (ds:=[Aru]) (by kernel_rfl) ⟨Dk (k:=0) (by kernel_rfl) rfl Biz,trivial⟩) (A8 (Az (by kernel_rfl)) (A8 (Az (by kernel_rfl)) (A8 (Az (by kernel_rfl)) (A8 (Az (by kernel_rfl)) (A8 (Az (by kernel_rfl)) (A8 (Az (by kernel_rfl)) (A8 (Az (by kernel_rfl)) (A8 (Az (by kernel_rfl)) Dd)))))))))))) (fun p hp=>nomatch hp)
def Ben (x:GB):TkR:=(stG x.1,gk x,0,())
def Beo (y:Option (GB⊕Int)):TTR:=thY y zGB (fun e=>bif e != 0 then lfT2 (Jm e) else .fail) fun x=>lfT2 (Ben x)
where lfT2 (r:TkR):TTR:=.leaf r
noncomputable def B02 (Y:YP) (g:TCT cGr) (s:TCT cSt) (n:Int):TTR:=szT g.1 (bif K5 g s != 0 then .leaf (Jm (K5 g s)) else bif decide (n<0) then .leaf (Jm 3) else bif decide (n>4000) then .leaf (Jm 3) else szT g.1 (neT (msT s) (acT (msT s) 48 (neT (osT s) (acT (osT s) 1 (.need (Kd [lkR 0]) (Beo (Y (gT g s) n))))))))
theorem B03 (Y:YP) (x:TCTs [cGr,cSt,cI]):D1 (Bem Y) 9 (.fn 30) (E7 [cGr,cSt,cI] x) Ce 0 (Hx Tryz.prog [cSt,.sl cKn,cI])=B02 Y x.1 x.2.1 x.2.2.1:=by kernel_rfl
theorem B04 {g:TCT cGr} {s:TCT cSt} {n:Int} (hs:(g.1.1.size:Int)≤B7 .i64) (h:StaOk g s) (hn:0≤n∧n≤4000):Akc (gT g s) n=true:=by
 have a:=Azn hs h
 have b:=A8f a
 unfold Akc
 simp only [Bool.and_eq_true,decide_eq_true_eq]
 exact ⟨Et.2 b.1,b.2.2,hn⟩
def Akd:GB⊕Int→TkR
 | .inl x=>Ben x
 | .inr e=>Jm e
def PlayV (g:TCT cGr) (s:TCT cSt) (n:Int):TkR:=bif K5 g s != 0 then Jm (K5 g s) else bif decide (n<0)||decide (n>4000) then Jm 3 else Akd (plRn (Int.toNat n) (gT g s))
theorem plRn_ne:∀ (n:Nat) (x:GB) (e:Int),plRn n x=.inr e→e≠0
 | 0,x,e,h=>by
  unfold plRn at h
  cases hm:decide (((gk x).length:Int)>4096) with
  | true=>rw [hm] at h;cases h;decide
  | false=>rw [hm] at h;cases h
 | n+1,x,e,h=>by
  unfold plRn at h
  cases hm:decide (((gk x).length:Int)>4096) with
  | true=>rw [hm] at h;cases h;decide
  | false =>
   rw [hm] at h
   cases hs:D5 (stG x.1) with
   | true=>rw [hs] at h;cases h
   | false =>
    rw [hs] at h
    simp only [cond_false,Bool.not_false,cond_true] at h
    cases ht:tkF (ctG x.1) (gs x) with
    | inr e'=>rw [ht] at h;cases h;exact B8n ht
    | inl s=>rw [ht] at h;exact plRn_ne n _ e h
abbrev B05:PureT:=Bj [cGr,cSt,cI] [cSt,.sl cKn,cI] (fun x=>decide ((x.1.1.1.size:Int)≤B7 .i64)) (fun x=>A8g (PlayV x.1 x.2.1 x.2.2.1))
theorem B06 {g:TCT cGr} {s:TCT cSt} {n:Int} (hs:(g.1.1.size:Int)≤B7 .i64):(B02 A8l g s n).sat (fun y=>y=A8g (PlayV g s n)):=by
 unfold B02 PlayV
 rw [Ei hs,Ei hs]
 cases h1:K5 g s != 0 with
 | true=>exact rfl
 | false =>
  have h:=Ad8 (bne_eq_false_iff_eq.1 h1)
  have hn1:=h.n1
  have hn8:=h.n8
  have hm:=h.m
  have ho:=h.o
  simp only [cond_false]
  cases h2:decide (n<0) with
  | true=>exact rfl
  | false =>
   cases h3:decide (n>4000) with
   | true=>exact rfl
   | false =>
    have a2:=of_decide_eq_false h2
    have a3:=of_decide_eq_false h3
    simp only [cond_false,Bool.or_false]
    rw [A53 (by omega),A54 (by omega) (by decide),A53 (by omega),A54 (by omega) (by decide)]
    refine ⟨Ew _,?_⟩
    have hy:A8l (gT g s) n=some (plRn (Int.toNat n) (gT g s)):=by
     unfold A8l
     rw [B04 hs h ⟨by omega,by omega⟩];rfl
    unfold Beo
    cases hf:plRn (Int.toNat n) (gT g s) with
    | inl x=>rw [hf] at hy;rw [Yg hy];exact rfl
    | inr e=>rw [hf] at hy;rw [Yh hy,show (e != 0)=true from bne_iff_ne.2 (plRn_ne _ _ _ hf)];exact rfl
theorem B07:A6 Tryz.prog 30 B05:=Bl B01 9 (fun x=>B02 A8l x.1 x.2.1 x.2.2.1) (B03 A8l) fun _ hok _=>B06 (of_decide_eq_true hok)
end St
end V
end Go.Proofs.YtlangijnealfjaaGreat
namespace Go.Proofs.YtlangijnealfjaaGreat
open Go.RowKit
namespace V
namespace St
end St
end V
end Go.Proofs.YtlangijnealfjaaGreat
namespace Go.Proofs.YtlangijnealfjaaGreat
open Go.RowKit
namespace V
namespace St
end St
end V
end Go.Proofs.YtlangijnealfjaaGreat
