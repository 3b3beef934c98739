import Derived.Test.YtcfanlgpkefogaaGreatAd
namespace Go.Proofs.YtcfanlgpkefogaaGreat
open Go.RowKit
namespace V
namespace Tp
open St
theorem is_green:FnIs Tryz.prog (26,Tryz.f26):=⟨Tryz.func26,by kernel_rfl,by kernel_rfl⟩
theorem is_round:FnIs Tryz.prog (16,Tryz.f16):=⟨Tryz.func16,by kernel_rfl,by kernel_rfl⟩
theorem is_spot:FnIs Tryz.prog (22,Tryz.f22):=⟨Tryz.func22,by kernel_rfl,by kernel_rfl⟩
theorem is_blow:FnIs Tryz.prog (12,Tryz.f12):=⟨Tryz.func12,by kernel_rfl,by kernel_rfl⟩
theorem is_set:FnIs Tryz.prog (10,Tryz.f10):=⟨Tryz.func10,by kernel_rfl,by kernel_rfl⟩
abbrev D22:TC:=.i .u16
abbrev Bcn:TC:=.st [D22,D22]
def Cve:TCT Bbj:=(50000,40000,6000,500,false,())
def Cvf:TCT Bbj:=(30000,100000,6200,500,true,())
def D63:TCT Bag:=((50000,100000,()),1200,())
def nameG:ByteArray:=⟨#[103,114,101,101,110]⟩
def grn (d s:Int):TCT Bam:=(nameG,100000,200000,5000,[Cve,Cvf],D63,1,1,[(d,s,0,())],())
abbrev C90:PureT:=Bbc [cI,cI] [Bam] (fun _=>true) (fun x=>(grn x.1 x.2.1,()))
theorem Cp7:Bai Tryz.prog 26 C90:=Bbd (Bap Bao puOk_nil (fns_cons is_green No)) 5 (fun x=>.leaf (grn x.1 x.2.1,())) (fun x=>by kernel_rfl) fun _ _ _=>Ban rfl
def Be0:TCT Fq:=(450,2946,())
abbrev By7:PureT:=Bbc [] [Fq] (fun _=>true) (fun _=>(Be0,()))
theorem C91:Bai Tryz.prog 16 By7:=Bbd (Bap Bao puOk_nil (fns_cons is_round No)) 5 (fun x=>.leaf (Be0,())) (fun x=>by kernel_rfl) fun _ _ _=>Ban rfl
def spt (d:TCT Bcn):TCT cPt:=(W64 (Int.tdiv (W64 (W64 d.1*3)) 2),W64 (W64 d.2.1*3),())
abbrev Cga:PureT:=Bbc [Bcn] [cPt] (fun _=>true) (fun x=>(spt x.1,()))
theorem Cxc:Bai Tryz.prog 22 Cga:=Bbd (Bap Bao puOk_nil (fns_cons is_spot No)) 5 (fun x=>.leaf (spt x.1,())) (fun x=>by kernel_rfl) fun _ _ _=>Ban rfl
end Tp
end V
end Go.Proofs.YtcfanlgpkefogaaGreat
namespace Go.Proofs.YtcfanlgpkefogaaGreat
open Go.RowKit
namespace V
namespace Tp
open St
abbrev kGb:List SK:=[.d .s,.d cI,.d cI,.d cI,.d (.sl Bbj),.d cI,.d cI,.d cI,.d cI,.d cI,.d (.sl Bc6),.o 70 Fq,.d cI,.d cI]
noncomputable def Cxd:Code:=(Bal (bodyOf Tryz.f10)).getD 0 .skip
def Cvg:List BK:=[(1,41,kGr),(2,45,kSt),(8,41,kGb)]
def Bnm:Lay:={ keys:=[2,8,9,11,12,13,14],ks:=[.d (.sl Bcn),.p 1 0 0 0,.p 2 0 0 0,.p 8 0 0 0,.o 31 cPt,.o 33 Bag,.d cI],bs:=Cvg,n:=97,nx:=1000,marks:=[] }
def D23:Lay:={ keys:=[2,8,9,11,12],ks:=[.d (.sl Bcn),.p 1 0 0 0,.p 2 0 0 0,.p 8 0 0 0,.o 31 cPt],bs:=Cvg,n:=97,nx:=1000,marks:=[] }
def Cxe:Lay:={ keys:=[8,9,10],ks:=[.p 1 0 0 0,.p 2 0 0 0,.d .b],bs:=[(1,41,kGb),(2,45,kSt)],n:=97,nx:=1000,marks:=[] }
def Bkg:XE→Lay:=fun e=>match e with | .ret=>Cxe | _=>D23
def plSet5:List (Nat×PureT):=(41,Cvd)::(26,C90)::(16,By7)::(22,Cga)::(28,Cw3)::[]
theorem puSet5:Bc5 Tryz.prog plSet5:=puOk_cons is_May.plain D21 (puOk_cons is_green.plain Cp7 (puOk_cons is_round.plain C91 (puOk_cons is_spot.plain Cxc (puOk_cons is_sLie.plain D3u puOk_nil))))
noncomputable def Cxf:Ctx:=ctx Tryz.prog plSet5 []
theorem Ccn:CtxOk Cxf:=Bap Bao puSet5 No
abbrev GbT:Type:=SKTs kGb
def lwb (g:GbT):TCT Bam:=(g.1,g.2.1,g.2.2.1,g.2.2.2.1,g.2.2.2.2.1,((g.2.2.2.2.2.1,g.2.2.2.2.2.2.1,()),g.2.2.2.2.2.2.2.1,()),g.2.2.2.2.2.2.2.2.1,g.2.2.2.2.2.2.2.2.2.1,g.2.2.2.2.2.2.2.2.2.2.1,())
def blb (g:GbT):List (TCT Fq):=g.2.2.2.2.2.2.2.2.2.2.2.1
def wbl (g:GbT) (b:List (TCT Fq)):GbT:=(g.1,g.2.1,g.2.2.1,g.2.2.2.1,g.2.2.2.2.1,g.2.2.2.2.2.1,g.2.2.2.2.2.2.1,g.2.2.2.2.2.2.2.1,g.2.2.2.2.2.2.2.2.1,g.2.2.2.2.2.2.2.2.2.1,g.2.2.2.2.2.2.2.2.2.2.1,b,g.2.2.2.2.2.2.2.2.2.2.2.2.1,g.2.2.2.2.2.2.2.2.2.2.2.2.2.1,())
structure QSt where
 l:List (TCT Bcn)
 g0:SKTs kGr
 s0:SKTs kSt
def Bkh (p:TCT cPt):TCT Bag:=((p.1,p.2.1,()),2946,())
def By8 (q:QSt) (g:GbT) (i:Int) (ps:List (TCT cPt)) (os:List (TCT Bag)):Bnm.T:=((q.l,(),(),(),ps,os,i,()),(q.g0,q.s0,g,()))
def By9 (q:QSt) (g:GbT) (ps:List (TCT cPt)):V1 Bkg:=⟨.exit 0,((q.l,(),(),(),ps,()),(q.g0,q.s0,g,()))⟩
def C5j (g:GbT):V1 Bkg:=⟨.ret,(((),(),false,()),(g,([],[],0,0,0,()),()))⟩
def C5k (q:QSt) (g:GbT) (i:Int) (ps:List (TCT cPt)) (os:List (TCT Bag)) (p:TCT cPt):Tree (Bnm.T⊕V1 Bkg) :=
 bif C5h (lwb g) p 2946 os != 0 then .leaf (.inr (C5j g)) else bif !C5i (lwb g) p 2946 os then .leaf (.inr (C5j g)) else
 bif Bd8 (blb g) [Be0] 16 then bif Bd8 ps [p] 16 then bif Bd8 os [Bkh p] 24 then .leaf (.inl (By8 q (wbl g (blb g++[Be0])) (W64 (i+1)) (ps++[p]) (os++[Bkh p]))) else .fail else .fail else .fail
def Bs4 (q:QSt) (g:GbT) (i:Int) (ps:List (TCT cPt)) (os:List (TCT Bag)):Tree (Bnm.T⊕V1 Bkg) :=
 bif decide (i<(q.l.length:Int)) then inN q.l.length i (szT (lwb g) (C5k q g i ps os (spt (Bav q.l (Int.toNat i) (Bas Bcn))))) else .leaf (.inr (By9 q g ps))
def Bp9 (x:Bnm.T):Tree (Bnm.T⊕V1 Bkg):=Bs4 ⟨x.1.1,x.2.1,x.2.2.1⟩ x.2.2.2.1 x.1.2.2.2.2.2.2.1 x.1.2.2.2.2.1 x.1.2.2.2.2.2.1
def C5l (x:Bnm.T):Nat:=(x.1.1:List (TCT Bcn)).length+1
theorem D24:Bb0 Tryz.prog 10 Cxd (Baw Bnm Bkg (Bd4 [.ret,.exit 0] Bp9 C5l)):=Bbi Ccn 7 _ Bnm Bkg (fun e=>by cases e <;> exact Nat.le_refl _) [.ret,.exit 0] Bp9 C5l (fun g=>by kernel_rfl)
def setF (w:TCT Bam) (l:List (TCT Bcn)) (i:Nat) (ps:List (TCT cPt)):List (TCT cPt)⊕List (TCT cPt) :=
 bif C5h w (spt (Bav l i (Bas Bcn))) 2946 (ps.map Bkh)!=0 then .inr ps else bif !C5i w (spt (Bav l i (Bas Bcn))) 2946 (ps.map Bkh) then .inr ps else .inl (ps++[spt (Bav l i (Bas Bcn))])
def gbN (g:GbT) (n:Nat):GbT:=wbl g (List.replicate n Be0)
def Bs5 (q:QSt) (g:GbT):List (TCT cPt)⊕List (TCT cPt)→V1 Bkg
 | .inl ps=>By9 q (gbN g ps.length) ps
 | .inr ps=>C5j (gbN g ps.length)
theorem Cxg {q:QSt} {g:GbT} (hl:q.l.length≤1000) (hs:((lwb g).1.size:Int)≤Bb2 .i64):iter Bp9 (q.l.length+1) (By8 q (gbN g 0) 0 [] [])=some (Bs5 q g (Bat (setF (lwb g) q.l) 0 q.l.length [])):=by
 have key:=Bfq (st:=Bp9) q.l.length (fun i ps=>By8 q (gbN g i) (i:Int) ps (ps.map Bkh)) (setF (lwb g) q.l) (Bs5 q g) (fun i ps=>ps.length=i)
  (fun i ps hi hI=>by
   show (Bs4 q (gbN g i) (i:Int) ps (ps.map Bkh)).run=_
   unfold Bs4 inN
   rw [decide_eq_true (show (i:Int)<(q.l.length:Int) by omega),decide_eq_true (show 0≤(i:Int)∧(i:Int)<(q.l.length:Int) by omega),show Int.toNat (i:Int)=i by omega]
   show (szT (lwb g) (C5k q (gbN g i) (i:Int) ps (ps.map Bkh) (spt (Bav q.l i (Bas Bcn)))):Tree _).run=_
   rw [Bdd hs]
   unfold C5k setF
   rw [show lwb (gbN g i)=lwb g from rfl]
   generalize spt (Bav q.l i (Bas Bcn))=p
   cases C5h (lwb g) p 2946 (ps.map Bkh)!=0 with
   | true=>simp only [cond_true,Cjl,Bs5,hI];rfl
   | false =>
    cases !C5i (lwb g) p 2946 (ps.map Bkh) with
    | true=>simp only [cond_true,cond_false,Cjl,Bs5,hI];rfl
    | false =>
     rw [Bbb (n:=(i:Int)+1) (by omega) (by omega)]
     have e1:Bd8 (blb (gbN g i)) [Be0] 16=true:=by
      rw [Be3];exact decide_eq_true (by show (((List.replicate i Be0).length+[Be0].length:Nat):Int)*16≤_;rw [List.length_replicate];simp only [List.length_singleton];omega)
     have e2:Bd8 ps [p] 16=true:=by rw [Be3];exact decide_eq_true (by simp only [List.length_singleton];omega)
     have e3:Bd8 (ps.map Bkh) [Bkh p] 24=true:=by rw [Be3];exact decide_eq_true (by simp only [List.length_singleton,List.length_map];omega)
     have e4:wbl (gbN g i) (blb (gbN g i)++[Be0])=gbN g (i+1):=by
      show wbl g (List.replicate i Be0++[Be0])=wbl g (List.replicate (i+1) Be0)
      rw [List.replicate_succ']
     have e5:ps.map Bkh++[Bkh p]=(ps++[p]).map Bkh:=by rw [List.map_append];rfl
     rw [e1,e2,e3,e4,e5]
     rfl)
  (fun i ps ps' _ hI h=>by
   unfold setF at h
   cases h1:C5h (lwb g) (spt (Bav q.l i (Bas Bcn))) 2946 (ps.map Bkh)!=0 with
   | true=>rw [h1] at h;cases h
   | false =>
    cases h2:!C5i (lwb g) (spt (Bav q.l i (Bas Bcn))) 2946 (ps.map Bkh) with
    | true=>rw [h1,h2] at h;cases h
    | false =>
     rw [h1,h2] at h
     cases h
     rw [List.length_append,List.length_singleton,hI])
  (fun ps hI=>by
   show (Bs4 q (gbN g q.l.length) (q.l.length:Int) ps (ps.map Bkh)).run=_
   unfold Bs4
   rw [decide_eq_false (show ¬ (q.l.length:Int)<(q.l.length:Int) by omega)]
   show some (Sum.inr (By9 q (gbN g q.l.length) ps))=some (Sum.inr (By9 q (gbN g ps.length) ps))
   rw [hI]) q.l.length 0 [] (by omega) rfl
 exact key
noncomputable def Cgb:Ctx:=Bgo Tryz.prog plSet5 [(10,Tryz.f10)] [((10,5),Baw Bnm Bkg (Bd4 [.ret,.exit 0] Bp9 C5l))]
theorem Cgc:CtxOk Cgb:=Bc8 Bao puSet5 (fns_cons is_set No) (Bbt (by kernel_rfl) (by kernel_rfl) D24)
def gb0 (d s:Int) (x:TCT Bbv):GbT:=(nameG,100000,200000,5000,[Cve,Cvf],50000,100000,1200,1,1,[(d,s,0,())],[],x.1,x.2.1,())
def g00:SKTs kGr:=(⟨#[]⟩,0,0,0,[],0,0,0,0,0,[],[],0,0,())
def s00:SKTs kSt:=([],[],0,0,0,())
def C92 (d s:Int) (l:List (TCT Bcn)) (x:TCT Bbv):Option (V1 Bkg):=iter Bp9 (l.length+1) (By8 ⟨l,g00,s00⟩ (gb0 d s x) 0 [] [])
abbrev Cp8:=Tree (TCTs [cGr,cSt,.b])
def grb (g:GbT):TCT cGr:=(lwb g,blb g,(g.2.2.2.2.2.2.2.2.2.2.2.2.1,g.2.2.2.2.2.2.2.2.2.2.2.2.2.1,()),())
def Cgd (l:List (TCT Bcn)) (r:TCTs [cSt,cI]):Bool:=r.2.1==0&&(((msT r.1).length:Int)==(l.length:Int)&&((osT r.1).length:Int)==(l.length:Int))
def Cge (l:List (TCT Bcn)) (g:GbT) (r:TCTs [cSt,cI]):Cp8:=bif r.2.1==0 then bif ((msT r.1).length:Int)==(l.length:Int) then .leaf (grb g,St.etaS r.1,((osT r.1).length:Int)==(l.length:Int),()) else .leaf (grb g,St.etaS r.1,false,()) else .leaf (grb g,St.etaS r.1,false,())
def Cgf (g:GbT) (l:List (TCT Bcn)) (ps:List (TCT cPt)):Cp8:=szT (lwb g) (Cge l g (Bf7 (grb g) ps))
def Cgg (y:Option (V1 Bkg)):Cp8:=bif isE .ret y then .leaf (grb (Bca .ret y).2.1,(Bca .ret y).2.2.1,(Bca .ret y).1.2.2.1,()) else bif isE (.exit 0) y then Cgf (Bca (.exit 0) y).2.2.2.1 (Bca (.exit 0) y).1.1 (Bca (.exit 0) y).1.2.2.2.2.1 else .fail
theorem Cgh (x:TCTs [cI,cI,.sl Bcn,Bbv]):Bcx Cgb 7 (.fn 10) (Bdi [cI,cI,.sl Bcn,Bbv] x) Bbx 0 (Bgq Cgb.P [cGr,cSt,.b])=Cgg (C92 x.1 x.2.1 x.2.2.1 x.2.2.2.1):=by kernel_rfl
def gN (d s:Int) (x:TCT Bbv) (n:Nat):TCT cGr:=(grn d s,List.replicate n Be0,(x.1,x.2.1,()),())
abbrev Cp9:Type:=List (TCT cPt)⊕List (TCT cPt)
def Bmn (d s:Int) (l:List (TCT Bcn)):Cp9:=Bat (setF (grn d s) l) 0 l.length []
def sN:Cp9→Nat
 | .inl p=>p.length
 | .inr p=>p.length
def sS (d s:Int) (x:TCT Bbv):Cp9→TCT cSt
 | .inl p=>St.etaS (Bf7 (gN d s x p.length) p).1
 | .inr _=>zS
def sB (d s:Int) (x:TCT Bbv) (l:List (TCT Bcn)):Cp9→Bool
 | .inl p=>Cgd l (Bf7 (gN d s x p.length) p)
 | .inr _=>false
abbrev Cvh:PureT:=Bbc [cI,cI,.sl Bcn,Bbv] [cGr,cSt,.b] (fun x=>decide (x.2.2.1.length≤1000)) (fun x=>(gN x.1 x.2.1 x.2.2.2.1 (sN (Bmn x.1 x.2.1 x.2.2.1)),sS x.1 x.2.1 x.2.2.2.1 (Bmn x.1 x.2.1 x.2.2.1),sB x.1 x.2.1 x.2.2.2.1 x.2.2.1 (Bmn x.1 x.2.1 x.2.2.1),()))
theorem Bs6 (d s:Int):((grn d s).1.size:Int)≤Bb2 .i64:=by
 show ((nameG.size:Nat):Int)≤_
 decide
theorem Cgi {d s:Int} {l:List (TCT Bcn)} {x:TCT Bbv} (hl:l.length≤1000):(Cgg (C92 d s l x)).sat (fun y=>y=(gN d s x (sN (Bmn d s l)),sS d s x (Bmn d s l),sB d s x l (Bmn d s l),())):=by
 have e:C92 d s l x=some (Bs5 ⟨l,g00,s00⟩ (gb0 d s x) (Bmn d s l)):=Cxg (q:=⟨l,g00,s00⟩) (g:=gb0 d s x) hl (Bs6 d s)
 rw [e]
 cases Bmn d s l with
 | inr ps=>exact Ban rfl
 | inl ps =>
  show (Cgf (gbN (gb0 d s x) ps.length) l ps).sat _
  unfold Cgf
  rw [Bdd (show (((lwb (gbN (gb0 d s x) ps.length)).1.size:Nat):Int)≤_ from Bs6 d s)]
  show (Cge l (gbN (gb0 d s x) ps.length) (Bf7 (gN d s x ps.length) ps)).sat _
  unfold Cge
  show (bif (Bf7 (gN d s x ps.length) ps).2.1==0 then bif ((msT (Bf7 (gN d s x ps.length) ps).1).length:Int)==(l.length:Int) then .leaf (gN d s x ps.length,St.etaS (Bf7 (gN d s x ps.length) ps).1,((osT (Bf7 (gN d s x ps.length) ps).1).length:Int)==(l.length:Int),()) else .leaf (gN d s x ps.length,St.etaS (Bf7 (gN d s x ps.length) ps).1,false,()) else .leaf (gN d s x ps.length,St.etaS (Bf7 (gN d s x ps.length) ps).1,false,()):Cp8).sat (fun y=>y=(gN d s x ps.length,St.etaS (Bf7 (gN d s x ps.length) ps).1,Cgd l (Bf7 (gN d s x ps.length) ps),()))
  unfold Cgd
  cases (Bf7 (gN d s x ps.length) ps).2.1==0 <;> cases ((msT (Bf7 (gN d s x ps.length) ps).1).length:Int)==(l.length:Int) <;> exact Ban rfl
theorem Cvi:Bai Tryz.prog 10 Cvh:=Bbd Cgc 7 (fun x=>Cgg (C92 x.1 x.2.1 x.2.2.1 x.2.2.2.1)) Cgh fun x hok _=>Cgi (of_decide_eq_true hok)
end Tp
end V
end Go.Proofs.YtcfanlgpkefogaaGreat
namespace Go.Proofs.YtcfanlgpkefogaaGreat
open Go.RowKit
namespace V
namespace Tp
open St
theorem is_works04:FnIs Tryz.prog (17,Tryz.f17):=⟨Tryz.func17,by kernel_rfl,by kernel_rfl⟩
abbrev C93:PureT:=Bbc [] [.b] (fun _=>true) (fun _=>(true,()))
noncomputable def plWk:List (Nat×PureT):=[(43,Bi0),(10,Cvh),(75,Bqj)]
theorem puWk:Bc5 Tryz.prog plWk:=puOk_cons Bhh.plain Bji (puOk_cons is_set.plain Cvi (puOk_cons is_lCheck.plain Bnw puOk_nil))
theorem Cco:Bai Tryz.prog 17 C93:=C8k (Bp5 (u:=20) Bao puWk Cr5) 40 (fun _=>by kernel_rfl)
abbrev Bm7:TC:=.st [.i .i16,.i .i16,.i .u32,.i .u8]
def Bkb (w:TCT Bm7) (b:Int):TCT cBl:=(b,(W64 w.1,(bif W64 w.1==0&&(W64 w.2.1==0&&true) then 1 else W64 w.2.1),()),W64 (1+Int.tmod (W64 w.2.2.1) 2097152),Int.tmod (W64 w.2.2.2.1) 5,())
abbrev Cxh:PureT:=Bbc [Bm7,cI] [cBl] (fun _=>true) (fun x=>(Bkb x.1 x.2.1,()))
def Cgj (w:TCT Bm7) (b:Int):Tree (TCTs [cBl]):=bif W64 w.1==0&&(W64 w.2.1==0&&true) then .leaf ((b,(W64 w.1,1,()),W64 (1+Int.tmod (W64 w.2.2.1) 2097152),Int.tmod (W64 w.2.2.2.1) 5,()),()) else .leaf ((b,(W64 w.1,W64 w.2.1,()),W64 (1+Int.tmod (W64 w.2.2.1) 2097152),Int.tmod (W64 w.2.2.2.1) 5,()),())
theorem Cgk (w:TCT Bm7) (b:Int):(Cgj w b).sat (fun y=>y=(Bkb w b,())):=by
 unfold Cgj Bkb
 cases W64 w.1==0&&(W64 w.2.1==0&&true) <;> exact Ban rfl
theorem Cxi:Bai Tryz.prog 12 Cxh:=Bbd (Bap Bao puOk_nil (fns_cons is_blow No)) 5 (fun x=>Cgj x.1 x.2.1) (fun x=>by kernel_rfl) fun x _ _=>Cgk _ _
def Cvj (g:TCT cGr):TCT cGr:=Cql (Bcb g)
abbrev FGn:Type:=Int→Int→TCT Bbv→List (TCT Bcn)→TCT cGr
abbrev FSs:Type:=Int→Int→TCT Bbv→List (TCT Bcn)→TCT cSt
abbrev FBb:Type:=Int→Int→TCT Bbv→List (TCT Bcn)→Bool
abbrev FBl:Type:=TCT Bm7→Int→TCT cBl
abbrev FSk:Type:=TCT cGr→TCT cSt→TCT cBl→TkR
abbrev FTk:Type:=TCT cGr→TCT cSt→TkR
abbrev D25 (g:TCT cGr):Bool:=decide ((g.1.1.size:Int)≤Bb2 .i64)
def Cvk (b:TCT cBl):TCT cBl:=(b.1,(b.2.1.1,b.2.1.2.1,()),b.2.2.1,b.2.2.2.1,())
abbrev Cgl (G:FGn) (S:FSs) (B:FBb):PureT:=Bbc [cI,cI,.sl Bcn,Bbv] [cGr,cSt,.b] (fun x=>decide (x.2.2.1.length≤1000)) (fun x=>(Cvj (G x.1 x.2.1 x.2.2.2.1 x.2.2.1),St.etaS (S x.1 x.2.1 x.2.2.2.1 x.2.2.1),B x.1 x.2.1 x.2.2.2.1 x.2.2.1,()))
abbrev Cgm (W:FBl):PureT:=Bbc [Bm7,cI] [cBl] (fun _=>true) (fun x=>(Cvk (W x.1 x.2.1),()))
abbrev D26 (F:FSk):PureT:=Bbc [cGr,cSt,cBl] [cSt,.sl cKn,cI] (fun x=>D25 x.1) (fun x=>C2l (F x.1 x.2.1 x.2.2.1))
abbrev D27 (F:FTk):PureT:=Bbc [cGr,cSt] [cSt,.sl cKn,cI] (fun x=>D25 x.1) (fun x=>C2l (F x.1 x.2.1))
def Bgr:FGn:=fun d s x l=>gN d s x (sN (Bmn d s l))
def Bk3:FSs:=fun d s x l=>sS d s x (Bmn d s l)
def Bki:FBb:=fun d s x l=>sB d s x l (Bmn d s l)
theorem Cxj:Bai Tryz.prog 10 (Cgl Bgr Bk3 Bki):=Cvi
theorem Cxk:Bai Tryz.prog 12 (Cgm Bkb):=Cxi
end Tp
end V
end Go.Proofs.YtcfanlgpkefogaaGreat
