import Derived.Test.YtlangijnealfjaaGreatZv
namespace Go.Proofs.YtlangijnealfjaaGreat
open Go.RowKit
namespace V
namespace Wi
open St
theorem is_Facts:FnIs Tryz.prog (31,Tryz.f31):=⟨Tryz.func31,by kernel_rfl,by kernel_rfl⟩
theorem is_facts1:FnIs Tryz.prog (80,Tryz.f80):=⟨Tryz.func80,by kernel_rfl,by kernel_rfl⟩
theorem is_vmark:FnIs Tryz.prog (81,Tryz.f81):=⟨Tryz.func81,by kernel_rfl,by kernel_rfl⟩
theorem is_betwR:FnIs Tryz.prog (82,Tryz.f82):=⟨Tryz.func82,by kernel_rfl,by kernel_rfl⟩
theorem is_signs:FnIs Tryz.prog (83,Tryz.f83):=⟨Tryz.func83,by kernel_rfl,by kernel_rfl⟩
theorem is_some:FnIs Tryz.prog (141,Tryz.f141):=⟨Tryz.func141,by kernel_rfl,by kernel_rfl⟩
theorem is_some1:FnIs Tryz.prog (201,Tryz.f201):=⟨Tryz.func201,by kernel_rfl,by kernel_rfl⟩
def Ri (m:TCT cMk):Bool:=decide (mK m≥0)&&(decide (mK m≤5)&&(decide (mB m≥0)&&(decide (mB m<4)&&(decide (mF m≥0)&&(decide (mF m≤mT m)&&decide (mT m≤1048576))))))
def Bbd (m:TCT cMk):Tree (TCTs [.b]):=bif decide (mK m≥0) then bif decide (mK m≤5) then bif decide (mB m≥0) then bif decide (mB m<4) then bif decide (mF m≥0) then bif decide (mF m≤mT m) then .leaf (decide (mT m≤1048576),()) else .leaf (false,()) else .leaf (false,()) else .leaf (false,()) else .leaf (false,()) else .leaf (false,()) else .leaf (false,())
theorem B3l (m:TCT cMk):(Bbd m).sat fun y=>y=(Ri m,()):=by
 unfold Bbd Ri
 cases decide (mK m≥0) <;> cases decide (mK m≤5) <;> cases decide (mB m≥0) <;> cases decide (mB m<4) <;> cases decide (mF m≥0) <;> cases decide (mF m≤mT m) <;> exact rfl
abbrev B3m:PureT:=Bj [cMk] [.b] (fun _=>true) (fun x=>(Ri x.1,()))
theorem Bjw:A6 Tryz.prog 81 B3m:=Bl (Ap Ak puOk_nil (fns_cons is_vmark A0)) 3 (fun x=>Bbd x.1) (fun x=>by kernel_rfl) fun _ _ _=>B3l _
theorem puVm:D3 Tryz.prog [(81,B3m)]:=puOk_cons is_vmark.plain Bjw puOk_nil
abbrev No:SK:=.f 80 [] []
abbrev Aw5:SKT No→BTs []→TCT cMk→Bool:=fun _ _ m=>!Ri m
noncomputable abbrev B62:St→Tree (XE×St):=Ar (LM No [] 1000) (EM [] 1000) (D7 [.ret,.exit 0] (stM No [] 1000 Aw5) (fuM No [] 1000))
noncomputable def Abh:Ctx:=ctx Tryz.prog [(81,B3m)] [(80,Tryz.f80)]
theorem Aw6:CtxOk Abh:=Ap Ak puVm (fns_cons is_facts1 A0)
theorem Bjx (g:(LM No [] 1000).T):evC Tryz.prog (D1 Abh 6) Abh.pures 140 Abh.u (fun _=>none) Dy ((LM No [] 1000).of g) (Db (LM No [] 1000) (EM [] 1000))=stM No [] 1000 Aw5 g:=by kernel_rfl
theorem Bjy:Aw Tryz.prog 140 Dy B62:=B8 (X:=Abh) Aw6 6 _ _ _ (Wl No [] 1000) [.ret,.exit 0] _ _ Bjx
noncomputable def Bjz:Ctx:=G4 Tryz.prog [(81,B3m)] [(79,Tryz.f79),(140,Tryz.f140),(80,Tryz.f80)] [((140,2),B62)]
theorem B3n:CtxOk Bjz:=Bs Ak puVm (fns_cons is_cfMk (fns_cons is_ixMk (fns_cons is_facts1 A0))) (A8 (Az (by kernel_rfl)) (A8 (E6 (ds:=[Dy]) Hb ⟨Dk (k:=2) L8 rfl Bjy,trivial⟩) (A8 (Az (by kernel_rfl)) Dd)))
abbrev Aw7:PureT:=Ha [.d (.sl cMk),No] [.b] (fun _=>true) (fun x=>(x.1.any (fun m=>!Ri m),()))
theorem Bbe:A6 Tryz.prog 79 Aw7:=Ji B3n 8 (fun x=>aM (iter (stM No [] 1000 Aw5) (x.1.length+1) (hdM No [] 1000 x.1 ((),()) () (x.1.length:Int) 0))) (fun x=>by kernel_rfl) fun x _ hw=>by
 have hl:(x.1.length:Int)≤B7 .i64:=Dl (hw.1)
 rw [B3e hl]
 exact A42
abbrev kS6:List SK:=[.o 98 cMk,.o 98 cMk,.o 98 cMk,.o 98 cMk,.o 98 cMk,.o 98 cMk,.d cI,.d cI]
abbrev S6:Type:=SKTs kS6
def B3o (s:S6):Nat→List (TCT cMk)
 | 0=>s.1
 | 1=>s.2.1
 | 2=>s.2.2.1
 | 3=>s.2.2.2.1
 | 4=>s.2.2.2.2.1
 | _=>s.2.2.2.2.2.1
def Bgl (s:S6) (x:List (TCT cMk)):Nat→S6
 | 0=>(x,s.2)
 | 1=>(s.1,x,s.2.2)
 | 2=>(s.1,s.2.1,x,s.2.2.2)
 | 3=>(s.1,s.2.1,s.2.2.1,x,s.2.2.2.2)
 | 4=>(s.1,s.2.1,s.2.2.1,s.2.2.2.1,x,s.2.2.2.2.2)
 | _=>(s.1,s.2.1,s.2.2.1,s.2.2.2.1,s.2.2.2.2.1,x,s.2.2.2.2.2.2)
def Afb {α:Type} (f:Nat→Tree α) (n:Int):Nat→Nat→Tree α
 | _,0=>.fail
 | k,m+1=>bif decide (n=(k:Int)) then f k else Afb f n (k+1) m
theorem Ajb {α:Type} {f:Nat→Tree α}:∀ (m k j:Nat),j<m→Afb f ((k+j:Nat):Int) k m=f (k+j)
 | 0,_,_,h=>absurd h (Nat.not_lt_zero _)
 | m+1,k,0,_=>by
  show (bif decide (((k+0:Nat):Int)=(k:Int)) then f k else _)=_
  rw [Nat.add_zero,decide_eq_true rfl];rfl
 | m+1,k,j+1,h=>by
  show (bif decide (((k+(j+1):Nat):Int)=(k:Int)) then f k else Afb f ((k+(j+1):Nat):Int) (k+1) m)=_
  rw [decide_eq_false (by omega),cond_false,show k+(j+1)=k+1+j by omega]
  exact Ajb m (k+1) j (by omega)
theorem Bbf {α:Type} {f:Nat→Tree α} {n:Int} (h0:0≤n) (h5:n≤5):Afb f n 0 6=f n.toNat:=by
 obtain ⟨j,rfl⟩:=Int.eq_ofNat_of_zero_le h0
 have:=Ajb (f:=f) 6 0 j (by omega)
 rw [Nat.zero_add] at this
 exact this
noncomputable def Aw8:Code:=(Al (bodyOf Tryz.f31)).getD 0 .skip
noncomputable def Aw9:Code:=(Al (bodyOf Tryz.f31)).getD 1 .skip
def A27:Lay:={ keys:=[8,37,38,39],ks:=[.p 0 0 0 0,.d (.sl cMk),.d cI,.d cI],bs:=[(0,187,kS6)],n:=77,nx:=1000,marks:=[] }
def Bk0:Lay:={ keys:=[8],ks:=[.p 0 0 0 0],bs:=[(0,187,kS6)],n:=77,nx:=1000,marks:=[] }
def Afc:XE→Lay:=fun _=>Bk0
abbrev CF0:=A27.T⊕A1 Afc
def Abi (l:List (TCT cMk)) (s:S6) (n i:Int):A27.T:=(((),l,n,i,()),(s,()))
def Awa (s:S6):A1 Afc:=⟨.exit 1,(((),()),(s,()))⟩
def B63 (l:List (TCT cMk)) (s:S6) (n i:Int) (m:TCT cMk):Tree CF0 :=
 Afb (fun _=>Afb (fun r=>bif Df (B3o s r) [m] 32 then Afb (fun w=>bif Nat.beq w r then .leaf (.inl (Abi l (Bgl s (B3o s r++[m]) r) n (W64 (i+1)))) else .fail) (mK m) 0 6 else .fail) (mK m) 0 6) (mK m) 0 6
def Abj (l:List (TCT cMk)) (s:S6) (n i:Int):Tree CF0:=bif decide (i<n) then bif decide (0≤i∧i<(l.length:Int)) then B63 l s n i (As l (Int.toNat i) (Aq cMk)) else .fail else .leaf (.inr (Awa s))
def A44 (g:A27.T):Tree CF0:=Abj g.1.2.1 g.2.1 g.1.2.2.1 g.1.2.2.2.1
def Awb (g:A27.T):Nat:=(g.1.2.1:List (TCT cMk)).length+1
noncomputable def B3p:Ctx:=ctx Tryz.prog [] []
theorem Bk1 (g:A27.T):evC Tryz.prog (D1 B3p 6) B3p.pures 31 B3p.u (fun _=>none) Aw8 (A27.of g) (Db A27 Afc)=A44 g:=by kernel_rfl
end Wi
end V
end Go.Proofs.YtlangijnealfjaaGreat
namespace Go.Proofs.YtlangijnealfjaaGreat
open Go.RowKit
namespace V
namespace Wi
open St
def nm0:ByteArray:=⟨#[115,116,114,117,99,107]⟩
def nm1:ByteArray:=⟨#[100,111,117,98,108,101]⟩
def nm2:ByteArray:=⟨#[112,117,115,104]⟩
def nm3:ByteArray:=⟨#[99,114,117,115,104]⟩
def nm4:ByteArray:=⟨#[111,116,104,101,114]⟩
def nm5:ByteArray:=⟨#[119,105,114,101]⟩
def nm6:ByteArray:=⟨#[98,111,100,121]⟩
def nm7:ByteArray:=⟨#[109,111,118,101,100]⟩
def nm8:ByteArray:=⟨#[115,104,111,111,107]⟩
def nm9:ByteArray:=⟨#[108,97,116,101]⟩
abbrev kSg:List SK:=[.d .s,.f 201 [] [.p 1006 0 0 0,.p 1007 0 0 0],.d .s,.f 201 [] [.p 1008 0 0 0,.p 1009 0 0 0],.d .s,.f 142 [] [],.d .s,.f 144 [] [],.d .s,.f 201 [] [.p 1010 0 0 0,.p 1011 0 0 0],.d .s,.f 201 [] [.p 1012 0 0 0,.p 1013 0 0 0],.d .s,.f 201 [] [.p 1014 0 0 0,.p 1015 0 0 0],.d .s,.f 145 [] [],.d .s,.f 148 [] [],.d .s,.f 149 [] []]
abbrev kS7:List SK:=[.d (.sl cMk),.d (.sl cMk),.d (.sl cMk),.d (.sl cMk),.d (.sl cMk),.d (.sl cMk),.d cI,.d cI]
abbrev Bk3:List BK:=[(0,187,kS7),(1006,3,[.d cI]),(1007,3,[.d cI]),(1008,3,[.d cI]),(1009,3,[.d cI]),(1010,3,[.d cI]),(1011,3,[.d cI]),(1012,3,[.d cI]),(1013,3,[.d cI]),(1014,3,[.d cI]),(1015,3,[.d cI]),(1016,192,kSg)]
def A6g:Lay:={ keys:=[8,11,60,61,62],ks:=[.p 0 0 0 0,.o 9 .s,.sli 1016 0 2 10 10,.d cI,.d cI],bs:=Bk3,n:=77,nx:=2000,marks:=[] }
def Bk4:Lay:={ keys:=[11],ks:=[.o 9 .s],bs:=[],n:=77,nx:=2000,marks:=[] }
def Vb:XE→Lay:=fun _=>Bk4
abbrev CF1:=A6g.T⊕A1 Vb
def scK (sc:TCT cSc):SKTs kS7:=(kd0 sc,kd1 sc,kd2 sc,kd3 sc,kd4 sc,kd5 sc,scB sc,scL sc,())
def sgK:SKTs kSg:=(nm0,((),((),(),())),nm1,((),((),(),())),nm2,((),()),nm3,((),()),nm4,((),((),(),())),nm5,((),((),(),())),nm6,((),((),(),())),nm7,((),()),nm8,((),()),nm9,((),()),())
def Jj (sc:TCT cSc) (out:List ByteArray) (i:Int):A6g.T:=(((),out,(),10,i,()),(scK sc,(0,()),(1,()),(0,()),(2,()),(1,()),(1,()),(2,()),(1,()),(4,()),(1,()),sgK,()))
def B3q (id:Nat) (s:St):St:={ s with tm:=fun t=>fzA s.hp (match s.hp id with | some (.blk b)=>b.cs.flatMap A38 | _=>[]) (s.tm t),hp:=fzH s.hp (match s.hp id with | some (.blk b)=>b.cs.flatMap A38 | _=>[]) }
theorem Abk {P:Program} {fn:FuncId} {c:Code} {f:St→Tree (XE×St)} (id:Nat) (h:Aw P fn c f):Aw P fn c (fun s=>f (B3q id s)):=fun w0 _ s a w R hS hf =>
 G1 (h w0 _ (B3q id s) a w R (hS.fz _) hf) fun _ _ _ ⟨τ,x,s',h1,h2⟩=>⟨τ,x,s',(Uw hS.h _).trans h1,h2⟩
def Abl (out:List ByteArray):A1 Vb:=⟨.exit 3,((out,()),())⟩
noncomputable def plF1:List (Nat×PureT):=(142,Avx)::(144,Aj9)::(145,B60)::(148,B61)::(149,Aw4)::[]
theorem puF1:D3 Tryz.prog plF1:=puOk_cons is_sg1.plain Bb8 (puOk_cons is_crsh.plain B3i (puOk_cons is_sg2.plain Bgg (puOk_cons is_sg3.plain Bgk (puOk_cons is_late.plain Bbc puOk_nil))))
noncomputable def Awc:Ctx:=ctx Tryz.prog plF1 [(201,Tryz.f201)]
theorem B3r:CtxOk Awc:=Ap Ak puF1 (fns_cons is_some1 A0)
noncomputable def Jk (g:A6g.T):Tree CF1:=evC Tryz.prog (D1 Awc 6) Awc.pures 31 Awc.u (fun _=>none) Aw9 (A6g.of g) (Db A6g Vb)
def Awd (_:A6g.T):Nat:=11
theorem Bk5:Aw Tryz.prog 31 Aw9 (fun s=>Ar A6g Vb (D7 [.exit 3] Jk Awd) (B3q 0 s)):=Abk 0 (B8 (X:=Awc) B3r 6 _ A6g Vb (fun _=>Nat.le_refl _) [.exit 3] Jk Awd (fun _=>rfl))
def Np (c:Bool) (nm:ByteArray) (sc:TCT cSc) (out:List ByteArray) (i:Int):Tree CF1:=bif c then bif Df out [nm] 16 then .leaf (.inl (Jj sc (out++[nm]) i)) else .fail else .leaf (.inl (Jj sc out i))
def cd0 (sc:TCT cSc):Bool:=decide (((kd0 sc).length:Int)≥1)
def cd1 (sc:TCT cSc):Bool:=decide (((kd0 sc).length:Int)≥2)
def cd2 (sc:TCT cSc):Bool:=(kd0 sc).any (B5z sc)
def cd3 (sc:TCT cSc):Bool:=(kd0 sc).any (Af5 sc)
def cd4 (sc:TCT cSc):Bool:=decide (((kd1 sc).length:Int)≥1)
def cd5 (sc:TCT cSc):Bool:=decide (((kd2 sc).length:Int)≥1)
def cd6 (sc:TCT cSc):Bool:=decide (((kd4 sc).length:Int)≥1)
def cd7 (sc:TCT cSc):Bool:=(kd5 sc).any (Bgc sc)
def cd8 (sc:TCT cSc):Bool:=(kd5 sc).any (Amc sc)
def cd9 (sc:TCT cSc):Bool:=(kd0 sc).any (Qb sc)
theorem Bbg (sc:TCT cSc) (out:List ByteArray):Jk (Jj sc out 0)=Np (cd0 sc) nm0 sc out 1:=by kernel_rfl
theorem Bbh (sc:TCT cSc) (out:List ByteArray):Jk (Jj sc out 1)=Np (cd1 sc) nm1 sc out 2:=by kernel_rfl
theorem Bbi (sc:TCT cSc) (out:List ByteArray):Jk (Jj sc out 2)=Np (cd2 sc) nm2 sc out 3:=by kernel_rfl
theorem Bbj (sc:TCT cSc) (out:List ByteArray):Jk (Jj sc out 3)=Np (cd3 sc) nm3 sc out 4:=by kernel_rfl
theorem Bbk (sc:TCT cSc) (out:List ByteArray):Jk (Jj sc out 4)=Np (cd4 sc) nm4 sc out 5:=by kernel_rfl
theorem Bbl (sc:TCT cSc) (out:List ByteArray):Jk (Jj sc out 5)=Np (cd5 sc) nm5 sc out 6:=by kernel_rfl
theorem Bbm (sc:TCT cSc) (out:List ByteArray):Jk (Jj sc out 6)=Np (cd6 sc) nm6 sc out 7:=by kernel_rfl
theorem Bbn (sc:TCT cSc) (out:List ByteArray):Jk (Jj sc out 7)=Np (cd7 sc) nm7 sc out 8:=by kernel_rfl
theorem Bbo (sc:TCT cSc) (out:List ByteArray):Jk (Jj sc out 8)=Np (cd8 sc) nm8 sc out 9:=by kernel_rfl
theorem Bbp (sc:TCT cSc) (out:List ByteArray):Jk (Jj sc out 9)=Np (cd9 sc) nm9 sc out 10:=by kernel_rfl
theorem Bbq (sc:TCT cSc) (out:List ByteArray):Jk (Jj sc out 10)=.leaf (.inr (Abl out)):=by kernel_rfl
def adF (c:Bool) (nm:ByteArray) (out:List ByteArray):List ByteArray:=bif c then out++[nm] else out
theorem Ln {c:Bool} {nm:ByteArray} {sc:TCT cSc} {out:List ByteArray} {i:Int} (h:out.length≤100):(Np c nm sc out i).run=some (.inl (Jj sc (adF c nm out) i)):=by
 unfold Np adF
 cases c with
 | true=>rw [cond_true,Hi (by rw [List.length_singleton];omega) (by decide)];rfl
 | false=>rfl
theorem Iv {c:Bool} {nm:ByteArray} {out:List ByteArray} {n:Nat} (h:out.length≤n):(adF c nm out).length≤n+1:=by
 unfold adF
 cases c with
 | true=>rw [cond_true,List.length_append,List.length_singleton];omega
 | false=>rw [cond_false];omega
def Gy (sc:TCT cSc):List ByteArray:=(adF (cd9 sc) nm9 (adF (cd8 sc) nm8 (adF (cd7 sc) nm7 (adF (cd6 sc) nm6 (adF (cd5 sc) nm5 (adF (cd4 sc) nm4 (adF (cd3 sc) nm3 (adF (cd2 sc) nm2 (adF (cd1 sc) nm1 (adF (cd0 sc) nm0 []))))))))))
theorem Bgm (sc:TCT cSc):iter Jk 11 (Jj sc [] 0)=some (Abl (Gy sc)):=by
 have h0:([]:List ByteArray).length≤0:=Nat.le_refl _
 have h1:=Iv (c:=cd0 sc) (nm:=nm0) h0
 rw [Ez (by rw [Bbg];exact Ln (by omega))]
 have h2:=Iv (c:=cd1 sc) (nm:=nm1) h1
 rw [Ez (by rw [Bbh];exact Ln (by omega))]
 have h3:=Iv (c:=cd2 sc) (nm:=nm2) h2
 rw [Ez (by rw [Bbi];exact Ln (by omega))]
 have h4:=Iv (c:=cd3 sc) (nm:=nm3) h3
 rw [Ez (by rw [Bbj];exact Ln (by omega))]
 have h5:=Iv (c:=cd4 sc) (nm:=nm4) h4
 rw [Ez (by rw [Bbk];exact Ln (by omega))]
 have h6:=Iv (c:=cd5 sc) (nm:=nm5) h5
 rw [Ez (by rw [Bbl];exact Ln (by omega))]
 have h7:=Iv (c:=cd6 sc) (nm:=nm6) h6
 rw [Ez (by rw [Bbm];exact Ln (by omega))]
 have h8:=Iv (c:=cd7 sc) (nm:=nm7) h7
 rw [Ez (by rw [Bbn];exact Ln (by omega))]
 have h9:=Iv (c:=cd8 sc) (nm:=nm8) h8
 rw [Ez (by rw [Bbo];exact Ln (by omega))]
 have h10:=Iv (c:=cd9 sc) (nm:=nm9) h9
 rw [Ez (by rw [Bbp];exact Ln (by omega))]
 exact G7 (by rw [Bbq];rfl)
end Wi
end V
end Go.Proofs.YtlangijnealfjaaGreat
namespace Go.Proofs.YtlangijnealfjaaGreat
open Go.RowKit
namespace V
namespace Wi
open St
def flt (k:Int) (l:List (TCT cMk)):List (TCT cMk):=l.filter fun m=>mK m==k
def sOf (b lim:Int) (l:List (TCT cMk)):S6:=(flt 0 l,flt 1 l,flt 2 l,flt 3 l,flt 4 l,flt 5 l,b,lim,())
def scO (s:S6):TCT cSc:=((s.1,s.2.1,s.2.2.1,s.2.2.2.1,s.2.2.2.2.1,s.2.2.2.2.2.1,()),s.2.2.2.2.2.2.1,s.2.2.2.2.2.2.2.1,())
theorem Pt (k:Int) (l:List (TCT cMk)):(flt k l).length≤l.length:=List.length_filter_le _ _
theorem Awe {b lim:Int} {l:List (TCT cMk)} (r:Nat):(B3o (sOf b lim l) r).length≤l.length:=by
 match r with
 | 0=>exact Pt _ _
 | 1=>exact Pt _ _
 | 2=>exact Pt _ _
 | 3=>exact Pt _ _
 | 4=>exact Pt _ _
 | _+5=>exact Pt _ _
theorem B3t (k:Int) (l:List (TCT cMk)) (m:TCT cMk):flt k (l++[m])=flt k l++bif mK m==k then [m] else []:=by
 unfold flt
 rw [List.filter_append,List.filter_cons,List.filter_nil]
 cases mK m==k with
 | true=>rfl
 | false=>rfl
theorem B3u {b lim:Int} {l:List (TCT cMk)} {m:TCT cMk} {r:Nat} (hr:mK m=(r:Int)) (h5:r≤5):Bgl (sOf b lim l) (B3o (sOf b lim l) r++[m]) r=sOf b lim (l++[m]):=by
 have e:∀ k:Int,flt k (l++[m])=flt k l++bif (r:Int)==k then [m] else []:=fun k=>by rw [B3t,hr]
 have e2:sOf b lim (l++[m])=(flt 0 l++(bif (r:Int)==0 then [m] else []),flt 1 l++(bif (r:Int)==1 then [m] else []),flt 2 l++(bif (r:Int)==2 then [m] else []),flt 3 l++(bif (r:Int)==3 then [m] else []),flt 4 l++(bif (r:Int)==4 then [m] else []),flt 5 l++(bif (r:Int)==5 then [m] else []),b,lim,()):=by
  show (flt 0 (l++[m]),flt 1 (l++[m]),flt 2 (l++[m]),flt 3 (l++[m]),flt 4 (l++[m]),flt 5 (l++[m]),b,lim,())=_
  rw [e,e,e,e,e,e]
 rw [e2]
 have n:∀ x:List (TCT cMk),x++[]=x:=List.append_nil
 match r,h5 with
 | 0,_=>show _=(flt 0 l++[m],flt 1 l++[],flt 2 l++[],flt 3 l++[],flt 4 l++[],flt 5 l++[],b,lim,());rw [n,n,n,n,n];rfl
 | 1,_=>show _=(flt 0 l++[],flt 1 l++[m],flt 2 l++[],flt 3 l++[],flt 4 l++[],flt 5 l++[],b,lim,());rw [n,n,n,n,n];rfl
 | 2,_=>show _=(flt 0 l++[],flt 1 l++[],flt 2 l++[m],flt 3 l++[],flt 4 l++[],flt 5 l++[],b,lim,());rw [n,n,n,n,n];rfl
 | 3,_=>show _=(flt 0 l++[],flt 1 l++[],flt 2 l++[],flt 3 l++[m],flt 4 l++[],flt 5 l++[],b,lim,());rw [n,n,n,n,n];rfl
 | 4,_=>show _=(flt 0 l++[],flt 1 l++[],flt 2 l++[],flt 3 l++[],flt 4 l++[m],flt 5 l++[],b,lim,());rw [n,n,n,n,n];rfl
 | 5,_=>show _=(flt 0 l++[],flt 1 l++[],flt 2 l++[],flt 3 l++[],flt 4 l++[],flt 5 l++[m],b,lim,());rw [n,n,n,n,n];rfl
 | n+6,h=>exact absurd h (by omega)
theorem Awf {m:TCT cMk} (h:Ri m=true):0≤mK m∧mK m≤5:=by
 unfold Ri at h
 rw [Bool.and_eq_true,Bool.and_eq_true,decide_eq_true_eq,decide_eq_true_eq] at h
 exact ⟨h.1,h.2.1⟩
theorem B64 {b lim:Int} {l:List (TCT cMk)} (hl:l.length≤64) (hv:∀ m ∈ l,Ri m=true):∀ (n i f:Nat),i+n=l.length→n+1≤f→iter A44 f (Abi l (sOf b lim (l.take i)) (l.length:Int) (i:Int))=some (Awa (sOf b lim l))
 | _,_,0,_,hf=>by omega
 | 0,i,f+1,hn,_=>by
  have e:i=l.length:=by omega
  subst e
  rw [List.take_length]
  refine G7 ?_
  show (Abj l (sOf b lim l) (l.length:Int) (l.length:Int)).run=_
  unfold Abj
  rw [decide_eq_false (Int.lt_irrefl _)]
  rfl
 | n+1,i,f+1,hn,hf=>by
  refine (Ez ?_).trans (B64 hl hv n (i+1) f (by omega) (by omega))
  have hi:i<l.length:=by omega
  have hvm:=Awf (hv _ (Ex hi (Aq cMk)))
  have htk:l.take (i+1)=l.take i++[As l i (Aq cMk)]:=by rw [De hi,List.take_append_getElem hi]
  show (Abj l (sOf b lim (l.take i)) (l.length:Int) (i:Int)).run=_
  unfold Abj
  rw [decide_eq_true (show (i:Int)<(l.length:Int) by omega),decide_eq_true (show 0≤(i:Int)∧(i:Int)<(l.length:Int) by omega),cond_true,cond_true,show Int.toNat (i:Int)=i by omega]
  unfold B63
  rw [Bbf hvm.1 hvm.2,Bbf hvm.1 hvm.2,Bbf hvm.1 hvm.2]
  have hlen:(l.take i).length≤64:=by rw [List.length_take];omega
  have hg:=Awe (b:=b) (lim:=lim) (l:=l.take i) (mK (As l i (Aq cMk))).toNat
  rw [Hi (by rw [List.length_singleton];omega) (by decide),show Nat.beq (mK (As l i (Aq cMk))).toNat (mK (As l i (Aq cMk))).toNat=true from Nat.beq_refl _,B3u (by omega) (by omega),← htk,Be (n:=(i:Int)+1) (by omega) (by omega)]
  rfl
abbrev TFa:=Tree (TCTs [.sl .s,cI])
def erF (e:Int):TFa:=.leaf ([],e,())
def B65 (y:Option (A1 Vb)):TFa:=bif isE (.exit 3) y then .leaf ((C2 (.exit 3) y).1.1,0,()) else .fail
def B66 (Y:TCT cSc→Option (A1 Vb)) (y:Option (A1 Afc)):TFa:=bif isE (.exit 1) y then B65 (Y (scO (C2 (.exit 1) y).2.1)) else .fail
theorem Bgn {Y:TCT cSc→Option (A1 Vb)} {s:S6} {o:List ByteArray} (h:Y (scO s)=some (Abl o)):(B66 Y (some (Awa s))).sat fun y=>y=(o,0,()):=by
 show (B65 (Y (scO s))).sat _
 rw [h]
 exact rfl
noncomputable def B3v (sc:TCT cSc):Option (A1 Vb):=iter Jk 11 (Jj sc [] 0)
theorem B3w (sc:TCT cSc):B3v sc=some (Abl (Gy sc)):=by
 unfold B3v
 exact Bgm sc
noncomputable def Awg (Y:TCT cSc→Option (A1 Vb)) (l:List (TCT cMk)) (b lim:Int):TFa:=B66 Y (iter A44 (l.length+1) (Abi l (sOf b lim []) (l.length:Int) 0))
noncomputable def B3x (Y:TCT cSc→Option (A1 Vb)) (l:List (TCT cMk)) (b lim:Int):TFa:=bif decide ((l.length:Int)>64) then erF 6 else bif l.any (fun m=>!Ri m) then erF 2 else bif decide (b<0) then erF 3 else bif decide (b≥4) then erF 3 else
 bif decide (lim≥0) then bif !decide (lim≤1048576) then erF 3 else Awg Y l b lim else erF 3
def Nu (l:List (TCT cMk)) (b lim:Int):List ByteArray×Int:=bif decide ((l.length:Int)>64) then ([],6) else bif l.any (fun m=>!Ri m) then ([],2) else bif decide (b<0)||(decide (b≥4)||(!decide (lim≥0)||!decide (lim≤1048576))) then ([],3) else (Gy (scO (sOf b lim l)),0)
theorem B3y {Y:TCT cSc→Option (A1 Vb)} (hY:∀ sc,Y sc=some (Abl (Gy sc))) {l:List (TCT cMk)} {b lim:Int}:(B3x Y l b lim).sat fun y=>y=((Nu l b lim).1,(Nu l b lim).2,()):=by
 unfold B3x Nu
 cases h1:decide ((l.length:Int)>64) with
 | true=>exact rfl
 | false =>
  have h1:=of_decide_eq_false h1
  cases h2:l.any (fun m=>!Ri m) with
  | true=>exact rfl
  | false =>
   cases decide (b<0) with
   | true=>exact rfl
   | false =>
    cases decide (b≥4) with
    | true=>exact rfl
    | false =>
     cases decide (lim≥0) with
     | false=>exact rfl
     | true =>
      cases decide (lim≤1048576) with
      | false=>exact rfl
      | true =>
       show (Awg Y l b lim).sat _
       unfold Awg
       have hv:∀ m ∈ l,Ri m=true:=fun m hm=>by
        rw [List.any_eq_false] at h2
        have:=h2 m hm
        rwa [Bool.not_eq_true',Bool.not_eq_false] at this
       have:=B64 (b:=b) (lim:=lim) (l:=l) (by omega) hv l.length 0 (l.length+1) (Nat.zero_add _) (Nat.le_refl _)
       rw [show Abi l (sOf b lim []) (l.length:Int) 0=Abi l (sOf b lim (l.take 0)) (l.length:Int) ((0:Nat):Int) from rfl,this]
       exact Bgn (hY _)
noncomputable def Bgo:Ctx:=G4 Tryz.prog [(79,Aw7)] [(31,Tryz.f31),(82,Tryz.f82),(83,Tryz.f83),(141,Tryz.f141)] [((31,9),Ar A27 Afc (D7 [.exit 1] A44 Awb)),((31,15),fun s=>Ar A6g Vb (D7 [.exit 3] Jk Awd) (B3q 0 s))]
theorem Bk6:Aw Tryz.prog 31 Aw8 (Ar A27 Afc (D7 [.exit 1] A44 Awb)):=B8 (X:=B3p) (Ap Ak puOk_nil A0) 6 _ A27 Afc (fun _=>Nat.le_refl _) [.exit 1] A44 Awb Bk1
theorem B3z:CtxOk Bgo:=Bs Ak (puOk_cons is_cfMk.plain Bbe puOk_nil) (fns_cons is_Facts (fns_cons is_betwR (fns_cons is_signs (fns_cons is_some A0)))) (A8 (E6 (ds:=[Aw8,Aw9]) (by kernel_rfl) ⟨Dk (k:=9) (by kernel_rfl) rfl Bk6,Dk (k:=15) (by kernel_rfl) rfl Bk5,trivial⟩) (A8 (Az (by kernel_rfl)) (A8 (Az (by kernel_rfl)) (A8 (Az (by kernel_rfl)) Dd))))
abbrev Bk7:PureT:=Bj [.sl cMk,cI,cI] [.sl .s,cI] (fun _=>true) (fun x=>((Nu x.1 x.2.1 x.2.2.1).1,(Nu x.1 x.2.1 x.2.2.1).2,()))
theorem B40 (x:TCTs [.sl cMk,cI,cI]):D1 Bgo 9 (.fn 31) (E7 [.sl cMk,cI,cI] x) Ce 0 (Hx Tryz.prog [.sl .s,cI])=B3x B3v x.1 x.2.1 x.2.2.1:=by kernel_rfl
theorem Bk8:A6 Tryz.prog 31 Bk7:=Bl B3z 9 (fun x=>B3x B3v x.1 x.2.1 x.2.2.1) B40 fun _ _ _=>B3y B3w
end Wi
end V
end Go.Proofs.YtlangijnealfjaaGreat
