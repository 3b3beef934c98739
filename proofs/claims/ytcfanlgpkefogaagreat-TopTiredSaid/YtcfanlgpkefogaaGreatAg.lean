import Derived.Test.YtcfanlgpkefogaaGreatAd
namespace Go.Proofs.YtcfanlgpkefogaaGreat
open Go.RowKit
namespace V
namespace Tp
open St
theorem is_green:FnIs Tryz.prog (26,Tryz.f26):=⟨Tryz.func26,by kernel_rfl,by kernel_rfl⟩
theorem is_round:FnIs Tryz.prog (16,Tryz.f16):=⟨Tryz.func16,by kernel_rfl,by kernel_rfl⟩
theorem is_spot:FnIs Tryz.prog (22,Tryz.f22):=⟨Tryz.func22,by kernel_rfl,by kernel_rfl⟩
theorem is_blow:FnIs Tryz.prog (12,Tryz.f12):=⟨Tryz.func12,by kernel_rfl,by kernel_rfl⟩
theorem is_set:FnIs Tryz.prog (10,Tryz.f10):=⟨Tryz.func10,by kernel_rfl,by kernel_rfl⟩
abbrev D1f:TC:=.i .u16
abbrev Bdx:TC:=.st [D1f,D1f]
def Cur:TCT Bbm:=(50000,40000,6000,500,false,())
def Cus:TCT Bbm:=(30000,100000,6200,500,true,())
def D5g:TCT Bag:=((50000,100000,()),1200,())
def nameG:ByteArray:=⟨#[103,114,101,101,110]⟩
def grn (d s:Int):TCT Bal:=(nameG,100000,200000,5000,[Cur,Cus],D5g,1,1,[(d,s,0,())],())
abbrev C8l:PureT:=Bbe [cI,cI] [Bal] (fun _=>true) (fun x=>(grn x.1 x.2.1,()))
theorem Col:Bai Tryz.prog 26 C8l:=Bbg (Baq Bao puOk_nil (fns_cons is_green V1)) 5 (fun x=>.leaf (grn x.1 x.2.1,())) (fun x=>by kernel_rfl) fun _ _ _=>Bam rfl
def Bf7:TCT Fq:=(450,2946,())
abbrev By0:PureT:=Bbe [] [Fq] (fun _=>true) (fun _=>(Bf7,()))
theorem C8m:Bai Tryz.prog 16 By0:=Bbg (Baq Bao puOk_nil (fns_cons is_round V1)) 5 (fun x=>.leaf (Bf7,())) (fun x=>by kernel_rfl) fun _ _ _=>Bam rfl
def spt (d:TCT Bdx):TCT cPt:=(W64 (Int.tdiv (W64 (W64 d.1*3)) 2),W64 (W64 d.2.1*3),())
abbrev Cfs:PureT:=Bbe [Bdx] [cPt] (fun _=>true) (fun x=>(spt x.1,()))
theorem Cwm:Bai Tryz.prog 22 Cfs:=Bbg (Baq Bao puOk_nil (fns_cons is_spot V1)) 5 (fun x=>.leaf (spt x.1,())) (fun x=>by kernel_rfl) fun _ _ _=>Bam rfl
end Tp
end V
end Go.Proofs.YtcfanlgpkefogaaGreat
namespace Go.Proofs.YtcfanlgpkefogaaGreat
open Go.RowKit
namespace V
namespace Tp
open St
abbrev kGb:List SK:=[.d .s,.d cI,.d cI,.d cI,.d (.sl Bbm),.d cI,.d cI,.d cI,.d cI,.d cI,.d (.sl Bc1),.o 70 Fq,.d cI,.d cI]
noncomputable def Cwn:Code:=(Ban (bodyOf Tryz.f10)).getD 0 .skip
def Cut:List BK:=[(1,41,kGr),(2,45,kSt),(8,41,kGb)]
def Bnh:Lay:={ keys:=[2,8,9,11,12,13,14],ks:=[.d (.sl Bdx),.p 1 0 0 0,.p 2 0 0 0,.p 8 0 0 0,.o 31 cPt,.o 33 Bag,.d cI],bs:=Cut,n:=97,nx:=1000,marks:=[] }
def D1g:Lay:={ keys:=[2,8,9,11,12],ks:=[.d (.sl Bdx),.p 1 0 0 0,.p 2 0 0 0,.p 8 0 0 0,.o 31 cPt],bs:=Cut,n:=97,nx:=1000,marks:=[] }
def Cwo:Lay:={ keys:=[8,9,10],ks:=[.p 1 0 0 0,.p 2 0 0 0,.d .b],bs:=[(1,41,kGb),(2,45,kSt)],n:=97,nx:=1000,marks:=[] }
def Bkd:XE→Lay:=fun e=>match e with | .ret=>Cwo | _=>D1g
def plSet5:List (Nat×PureT):=(41,Cuq)::(26,C8l)::(16,By0)::(22,Cfs)::(28,Cve)::[]
theorem puSet5:Bc7 Tryz.prog plSet5:=puOk_cons is_May.plain D1e (puOk_cons is_green.plain Col (puOk_cons is_round.plain C8m (puOk_cons is_spot.plain Cwm (puOk_cons is_sLie.plain D37 puOk_nil))))
noncomputable def Cwp:Ctx:=ctx Tryz.prog plSet5 []
theorem Cc8:CtxOk Cwp:=Baq Bao puSet5 V1
abbrev GbT:Type:=SKTs kGb
def lwb (g:GbT):TCT Bal:=(g.1,g.2.1,g.2.2.1,g.2.2.2.1,g.2.2.2.2.1,((g.2.2.2.2.2.1,g.2.2.2.2.2.2.1,()),g.2.2.2.2.2.2.2.1,()),g.2.2.2.2.2.2.2.2.1,g.2.2.2.2.2.2.2.2.2.1,g.2.2.2.2.2.2.2.2.2.2.1,())
def blb (g:GbT):List (TCT Fq):=g.2.2.2.2.2.2.2.2.2.2.2.1
def wbl (g:GbT) (b:List (TCT Fq)):GbT:=(g.1,g.2.1,g.2.2.1,g.2.2.2.1,g.2.2.2.2.1,g.2.2.2.2.2.1,g.2.2.2.2.2.2.1,g.2.2.2.2.2.2.2.1,g.2.2.2.2.2.2.2.2.1,g.2.2.2.2.2.2.2.2.2.1,g.2.2.2.2.2.2.2.2.2.2.1,b,g.2.2.2.2.2.2.2.2.2.2.2.2.1,g.2.2.2.2.2.2.2.2.2.2.2.2.2.1,())
structure QSt where
 l:List (TCT Bdx)
 g0:SKTs kGr
 s0:SKTs kSt
def Bke (p:TCT cPt):TCT Bag:=((p.1,p.2.1,()),2946,())
def By1 (q:QSt) (g:GbT) (i:Int) (ps:List (TCT cPt)) (os:List (TCT Bag)):Bnh.T:=((q.l,(),(),(),ps,os,i,()),(q.g0,q.s0,g,()))
def By2 (q:QSt) (g:GbT) (ps:List (TCT cPt)):V2 Bkd:=⟨.exit 0,((q.l,(),(),(),ps,()),(q.g0,q.s0,g,()))⟩
def C56 (g:GbT):V2 Bkd:=⟨.ret,(((),(),false,()),(g,([],[],0,0,0,()),()))⟩
def C57 (q:QSt) (g:GbT) (i:Int) (ps:List (TCT cPt)) (os:List (TCT Bag)) (p:TCT cPt):Tree (Bnh.T⊕V2 Bkd) :=
 bif C54 (lwb g) p 2946 os != 0 then .leaf (.inr (C56 g)) else bif !C55 (lwb g) p 2946 os then .leaf (.inr (C56 g)) else
 bif Bd9 (blb g) [Bf7] 16 then bif Bd9 ps [p] 16 then bif Bd9 os [Bke p] 24 then .leaf (.inl (By1 q (wbl g (blb g++[Bf7])) (W64 (i+1)) (ps++[p]) (os++[Bke p]))) else .fail else .fail else .fail
def Bry (q:QSt) (g:GbT) (i:Int) (ps:List (TCT cPt)) (os:List (TCT Bag)):Tree (Bnh.T⊕V2 Bkd) :=
 bif decide (i<(q.l.length:Int)) then inN q.l.length i (szT (lwb g) (C57 q g i ps os (spt (Bas q.l (Int.toNat i) (Bap Bdx))))) else .leaf (.inr (By2 q g ps))
def Bpa (x:Bnh.T):Tree (Bnh.T⊕V2 Bkd):=Bry ⟨x.1.1,x.2.1,x.2.2.1⟩ x.2.2.2.1 x.1.2.2.2.2.2.2.1 x.1.2.2.2.2.1 x.1.2.2.2.2.2.1
def C58 (x:Bnh.T):Nat:=(x.1.1:List (TCT Bdx)).length+1
theorem D1h:Bb0 Tryz.prog 10 Cwn (Baz Bnh Bkd (Bdg [.ret,.exit 0] Bpa C58)):=Bbl Cc8 7 _ Bnh Bkd (fun e=>by cases e <;> exact Nat.le_refl _) [.ret,.exit 0] Bpa C58 (fun g=>by kernel_rfl)
def setF (w:TCT Bal) (l:List (TCT Bdx)) (i:Nat) (ps:List (TCT cPt)):List (TCT cPt)⊕List (TCT cPt) :=
 bif C54 w (spt (Bas l i (Bap Bdx))) 2946 (ps.map Bke)!=0 then .inr ps else bif !C55 w (spt (Bas l i (Bap Bdx))) 2946 (ps.map Bke) then .inr ps else .inl (ps++[spt (Bas l i (Bap Bdx))])
def gbN (g:GbT) (n:Nat):GbT:=wbl g (List.replicate n Bf7)
def Brz (q:QSt) (g:GbT):List (TCT cPt)⊕List (TCT cPt)→V2 Bkd
 | .inl ps=>By2 q (gbN g ps.length) ps
 | .inr ps=>C56 (gbN g ps.length)
theorem Cwq {q:QSt} {g:GbT} (hl:q.l.length≤1000) (hs:((lwb g).1.size:Int)≤Bb4 .i64):iter Bpa (q.l.length+1) (By1 q (gbN g 0) 0 [] [])=some (Brz q g (Bat (setF (lwb g) q.l) 0 q.l.length [])):=by
 have key:=Bgn (st:=Bpa) q.l.length (fun i ps=>By1 q (gbN g i) (i:Int) ps (ps.map Bke)) (setF (lwb g) q.l) (Brz q g) (fun i ps=>ps.length=i)
  (fun i ps hi hI=>by
   show (Bry q (gbN g i) (i:Int) ps (ps.map Bke)).run=_
   unfold Bry inN
   rw [decide_eq_true (show (i:Int)<(q.l.length:Int) by omega),decide_eq_true (show 0≤(i:Int)∧(i:Int)<(q.l.length:Int) by omega),show Int.toNat (i:Int)=i by omega]
   show (szT (lwb g) (C57 q (gbN g i) (i:Int) ps (ps.map Bke) (spt (Bas q.l i (Bap Bdx)))):Tree _).run=_
   rw [Bdm hs]
   unfold C57 setF
   rw [show lwb (gbN g i)=lwb g from rfl]
   generalize spt (Bas q.l i (Bap Bdx))=p
   cases C54 (lwb g) p 2946 (ps.map Bke)!=0 with
   | true=>simp only [cond_true,Cj0,Brz,hI];rfl
   | false =>
    cases !C55 (lwb g) p 2946 (ps.map Bke) with
    | true=>simp only [cond_true,cond_false,Cj0,Brz,hI];rfl
    | false =>
     rw [Bbc (n:=(i:Int)+1) (by omega) (by omega)]
     have e1:Bd9 (blb (gbN g i)) [Bf7] 16=true:=by
      rw [Be2];exact decide_eq_true (by show (((List.replicate i Bf7).length+[Bf7].length:Nat):Int)*16≤_;rw [List.length_replicate];simp only [List.length_singleton];omega)
     have e2:Bd9 ps [p] 16=true:=by rw [Be2];exact decide_eq_true (by simp only [List.length_singleton];omega)
     have e3:Bd9 (ps.map Bke) [Bke p] 24=true:=by rw [Be2];exact decide_eq_true (by simp only [List.length_singleton,List.length_map];omega)
     have e4:wbl (gbN g i) (blb (gbN g i)++[Bf7])=gbN g (i+1):=by
      show wbl g (List.replicate i Bf7++[Bf7])=wbl g (List.replicate (i+1) Bf7)
      rw [List.replicate_succ']
     have e5:ps.map Bke++[Bke p]=(ps++[p]).map Bke:=by rw [List.map_append];rfl
     rw [e1,e2,e3,e4,e5]
     rfl)
  (fun i ps ps' _ hI h=>by
   unfold setF at h
   cases h1:C54 (lwb g) (spt (Bas q.l i (Bap Bdx))) 2946 (ps.map Bke)!=0 with
   | true=>rw [h1] at h;cases h
   | false =>
    cases h2:!C55 (lwb g) (spt (Bas q.l i (Bap Bdx))) 2946 (ps.map Bke) with
    | true=>rw [h1,h2] at h;cases h
    | false =>
     rw [h1,h2] at h
     cases h
     rw [List.length_append,List.length_singleton,hI])
  (fun ps hI=>by
   show (Bry q (gbN g q.l.length) (q.l.length:Int) ps (ps.map Bke)).run=_
   unfold Bry
   rw [decide_eq_false (show ¬ (q.l.length:Int)<(q.l.length:Int) by omega)]
   show some (Sum.inr (By2 q (gbN g q.l.length) ps))=some (Sum.inr (By2 q (gbN g ps.length) ps))
   rw [hI]) q.l.length 0 [] (by omega) rfl
 exact key
noncomputable def Cft:Ctx:=Bh4 Tryz.prog plSet5 [(10,Tryz.f10)] [((10,5),Baz Bnh Bkd (Bdg [.ret,.exit 0] Bpa C58))]
theorem Cfu:CtxOk Cft:=Bca Bao puSet5 (fns_cons is_set V1) (Bbv (by kernel_rfl) (by kernel_rfl) D1h)
def gb0 (d s:Int) (x:TCT Bbu):GbT:=(nameG,100000,200000,5000,[Cur,Cus],50000,100000,1200,1,1,[(d,s,0,())],[],x.1,x.2.1,())
def g00:SKTs kGr:=(⟨#[]⟩,0,0,0,[],0,0,0,0,0,[],[],0,0,())
def s00:SKTs kSt:=([],[],0,0,0,())
def C8n (d s:Int) (l:List (TCT Bdx)) (x:TCT Bbu):Option (V2 Bkd):=iter Bpa (l.length+1) (By1 ⟨l,g00,s00⟩ (gb0 d s x) 0 [] [])
abbrev Con:=Tree (TCTs [cGr,cSt,.b])
def grb (g:GbT):TCT cGr:=(lwb g,blb g,(g.2.2.2.2.2.2.2.2.2.2.2.2.1,g.2.2.2.2.2.2.2.2.2.2.2.2.2.1,()),())
def Cfv (l:List (TCT Bdx)) (r:TCTs [cSt,cI]):Bool:=r.2.1==0&&(((msT r.1).length:Int)==(l.length:Int)&&((osT r.1).length:Int)==(l.length:Int))
def Cfw (l:List (TCT Bdx)) (g:GbT) (r:TCTs [cSt,cI]):Con:=bif r.2.1==0 then bif ((msT r.1).length:Int)==(l.length:Int) then .leaf (grb g,St.etaS r.1,((osT r.1).length:Int)==(l.length:Int),()) else .leaf (grb g,St.etaS r.1,false,()) else .leaf (grb g,St.etaS r.1,false,())
def Cfx (g:GbT) (l:List (TCT Bdx)) (ps:List (TCT cPt)):Con:=szT (lwb g) (Cfw l g (Bf8 (grb g) ps))
def Cfy (y:Option (V2 Bkd)):Con:=bif isE .ret y then .leaf (grb (Bcg .ret y).2.1,(Bcg .ret y).2.2.1,(Bcg .ret y).1.2.2.1,()) else bif isE (.exit 0) y then Cfx (Bcg (.exit 0) y).2.2.2.1 (Bcg (.exit 0) y).1.1 (Bcg (.exit 0) y).1.2.2.2.2.1 else .fail
theorem Cfz (x:TCTs [cI,cI,.sl Bdx,Bbu]):Bcx Cft 7 (.fn 10) (Bdi [cI,cI,.sl Bdx,Bbu] x) Bbx 0 (Bgt Cft.P [cGr,cSt,.b])=Cfy (C8n x.1 x.2.1 x.2.2.1 x.2.2.2.1):=by kernel_rfl
def gN (d s:Int) (x:TCT Bbu) (n:Nat):TCT cGr:=(grn d s,List.replicate n Bf7,(x.1,x.2.1,()),())
abbrev Coo:Type:=List (TCT cPt)⊕List (TCT cPt)
def Bmm (d s:Int) (l:List (TCT Bdx)):Coo:=Bat (setF (grn d s) l) 0 l.length []
def sN:Coo→Nat
 | .inl p=>p.length
 | .inr p=>p.length
def sS (d s:Int) (x:TCT Bbu):Coo→TCT cSt
 | .inl p=>St.etaS (Bf8 (gN d s x p.length) p).1
 | .inr _=>zS
def sB (d s:Int) (x:TCT Bbu) (l:List (TCT Bdx)):Coo→Bool
 | .inl p=>Cfv l (Bf8 (gN d s x p.length) p)
 | .inr _=>false
abbrev Cuu:PureT:=Bbe [cI,cI,.sl Bdx,Bbu] [cGr,cSt,.b] (fun x=>decide (x.2.2.1.length≤1000)) (fun x=>(gN x.1 x.2.1 x.2.2.2.1 (sN (Bmm x.1 x.2.1 x.2.2.1)),sS x.1 x.2.1 x.2.2.2.1 (Bmm x.1 x.2.1 x.2.2.1),sB x.1 x.2.1 x.2.2.2.1 x.2.2.1 (Bmm x.1 x.2.1 x.2.2.1),()))
theorem Bs0 (d s:Int):((grn d s).1.size:Int)≤Bb4 .i64:=by
 show ((nameG.size:Nat):Int)≤_
 decide
theorem Cg0 {d s:Int} {l:List (TCT Bdx)} {x:TCT Bbu} (hl:l.length≤1000):(Cfy (C8n d s l x)).sat (fun y=>y=(gN d s x (sN (Bmm d s l)),sS d s x (Bmm d s l),sB d s x l (Bmm d s l),())):=by
 have e:C8n d s l x=some (Brz ⟨l,g00,s00⟩ (gb0 d s x) (Bmm d s l)):=Cwq (q:=⟨l,g00,s00⟩) (g:=gb0 d s x) hl (Bs0 d s)
 rw [e]
 cases Bmm d s l with
 | inr ps=>exact Bam rfl
 | inl ps =>
  show (Cfx (gbN (gb0 d s x) ps.length) l ps).sat _
  unfold Cfx
  rw [Bdm (show (((lwb (gbN (gb0 d s x) ps.length)).1.size:Nat):Int)≤_ from Bs0 d s)]
  show (Cfw l (gbN (gb0 d s x) ps.length) (Bf8 (gN d s x ps.length) ps)).sat _
  unfold Cfw
  show (bif (Bf8 (gN d s x ps.length) ps).2.1==0 then bif ((msT (Bf8 (gN d s x ps.length) ps).1).length:Int)==(l.length:Int) then .leaf (gN d s x ps.length,St.etaS (Bf8 (gN d s x ps.length) ps).1,((osT (Bf8 (gN d s x ps.length) ps).1).length:Int)==(l.length:Int),()) else .leaf (gN d s x ps.length,St.etaS (Bf8 (gN d s x ps.length) ps).1,false,()) else .leaf (gN d s x ps.length,St.etaS (Bf8 (gN d s x ps.length) ps).1,false,()):Con).sat (fun y=>y=(gN d s x ps.length,St.etaS (Bf8 (gN d s x ps.length) ps).1,Cfv l (Bf8 (gN d s x ps.length) ps),()))
  unfold Cfv
  cases (Bf8 (gN d s x ps.length) ps).2.1==0 <;> cases ((msT (Bf8 (gN d s x ps.length) ps).1).length:Int)==(l.length:Int) <;> exact Bam rfl
theorem Cuv:Bai Tryz.prog 10 Cuu:=Bbg Cfu 7 (fun x=>Cfy (C8n x.1 x.2.1 x.2.2.1 x.2.2.2.1)) Cfz fun x hok _=>Cg0 (of_decide_eq_true hok)
end Tp
end V
end Go.Proofs.YtcfanlgpkefogaaGreat
namespace Go.Proofs.YtcfanlgpkefogaaGreat
open Go.RowKit
namespace V
namespace Tp
open St
theorem is_works05:FnIs Tryz.prog (9,Tryz.f9):=⟨Tryz.func9,by kernel_rfl,by kernel_rfl⟩
abbrev C8o:PureT:=Bbe [] [.b] (fun _=>true) (fun _=>(true,()))
noncomputable def plWk:List (Nat×PureT):=[(43,Bi3),(10,Cuu),(75,Bqh)]
theorem puWk:Bc7 Tryz.prog plWk:=puOk_cons Bhj.plain Bjh (puOk_cons is_set.plain Cuv (puOk_cons is_lCheck.plain Bnv puOk_nil))
theorem Cc9:Bai Tryz.prog 9 C8o:=C85 (Bp7 (u:=20) Bao puWk Cqo) 40 (fun _=>by kernel_rfl)
abbrev Bni:TC:=.st [.i .i16,.i .i16,.i .u32,.i .u8]
def Bkf (w:TCT Bni) (b:Int):TCT cBl:=(b,(W64 w.1,(bif W64 w.1==0&&(W64 w.2.1==0&&true) then 1 else W64 w.2.1),()),W64 (1+Int.tmod (W64 w.2.2.1) 2097152),Int.tmod (W64 w.2.2.2.1) 5,())
abbrev Cwr:PureT:=Bbe [Bni,cI] [cBl] (fun _=>true) (fun x=>(Bkf x.1 x.2.1,()))
def Cg1 (w:TCT Bni) (b:Int):Tree (TCTs [cBl]):=bif W64 w.1==0&&(W64 w.2.1==0&&true) then .leaf ((b,(W64 w.1,1,()),W64 (1+Int.tmod (W64 w.2.2.1) 2097152),Int.tmod (W64 w.2.2.2.1) 5,()),()) else .leaf ((b,(W64 w.1,W64 w.2.1,()),W64 (1+Int.tmod (W64 w.2.2.1) 2097152),Int.tmod (W64 w.2.2.2.1) 5,()),())
theorem Cg2 (w:TCT Bni) (b:Int):(Cg1 w b).sat (fun y=>y=(Bkf w b,())):=by
 unfold Cg1 Bkf
 cases W64 w.1==0&&(W64 w.2.1==0&&true) <;> exact Bam rfl
theorem Cws:Bai Tryz.prog 12 Cwr:=Bbg (Baq Bao puOk_nil (fns_cons is_blow V1)) 5 (fun x=>Cg1 x.1 x.2.1) (fun x=>by kernel_rfl) fun x _ _=>Cg2 _ _
def Cuw (g:TCT cGr):TCT cGr:=Cq4 (Bds g)
abbrev FGn:Type:=Int→Int→TCT Bbu→List (TCT Bdx)→TCT cGr
abbrev FSs:Type:=Int→Int→TCT Bbu→List (TCT Bdx)→TCT cSt
abbrev FBb:Type:=Int→Int→TCT Bbu→List (TCT Bdx)→Bool
abbrev FBl:Type:=TCT Bni→Int→TCT cBl
abbrev FSk:Type:=TCT cGr→TCT cSt→TCT cBl→TkR
abbrev FTk:Type:=TCT cGr→TCT cSt→TkR
abbrev D1i (g:TCT cGr):Bool:=decide ((g.1.1.size:Int)≤Bb4 .i64)
def Cux (b:TCT cBl):TCT cBl:=(b.1,(b.2.1.1,b.2.1.2.1,()),b.2.2.1,b.2.2.2.1,())
abbrev Cg3 (G:FGn) (S:FSs) (B:FBb):PureT:=Bbe [cI,cI,.sl Bdx,Bbu] [cGr,cSt,.b] (fun x=>decide (x.2.2.1.length≤1000)) (fun x=>(Cuw (G x.1 x.2.1 x.2.2.2.1 x.2.2.1),St.etaS (S x.1 x.2.1 x.2.2.2.1 x.2.2.1),B x.1 x.2.1 x.2.2.2.1 x.2.2.1,()))
abbrev Cg4 (W:FBl):PureT:=Bbe [Bni,cI] [cBl] (fun _=>true) (fun x=>(Cux (W x.1 x.2.1),()))
abbrev D1j (F:FSk):PureT:=Bbe [cGr,cSt,cBl] [cSt,.sl cKn,cI] (fun x=>D1i x.1) (fun x=>C28 (F x.1 x.2.1 x.2.2.1))
abbrev D1k (F:FTk):PureT:=Bbe [cGr,cSt] [cSt,.sl cKn,cI] (fun x=>D1i x.1) (fun x=>C28 (F x.1 x.2.1))
def Bgu:FGn:=fun d s x l=>gN d s x (sN (Bmm d s l))
def Bkg:FSs:=fun d s x l=>sS d s x (Bmm d s l)
def Bmb:FBb:=fun d s x l=>sB d s x l (Bmm d s l)
theorem Cwt:Bai Tryz.prog 10 (Cg3 Bgu Bkg Bmb):=Cuv
theorem Cwu:Bai Tryz.prog 12 (Cg4 Bkf):=Cws
end Tp
end V
end Go.Proofs.YtcfanlgpkefogaaGreat
