import Derived.Test.YtcfanlgpkefogaaGreatAd
namespace Go.Proofs.YtcfanlgpkefogaaGreat
open Go.RowKit
namespace V
namespace Tp
open St
theorem is_green:FnIs Tryz.prog (26,Tryz.f26):=⟨Tryz.func26,by kernel_rfl,by kernel_rfl⟩
theorem is_round:FnIs Tryz.prog (16,Tryz.f16):=⟨Tryz.func16,by kernel_rfl,by kernel_rfl⟩
theorem is_spot:FnIs Tryz.prog (22,Tryz.f22):=⟨Tryz.func22,by kernel_rfl,by kernel_rfl⟩
theorem is_blow:FnIs Tryz.prog (12,Tryz.f12):=⟨Tryz.func12,by kernel_rfl,by kernel_rfl⟩
theorem is_set:FnIs Tryz.prog (10,Tryz.f10):=⟨Tryz.func10,by kernel_rfl,by kernel_rfl⟩
abbrev D88:TC:=.i .u16
abbrev Bbk:TC:=.st [D88,D88]
def D12:TCT Bbq:=(50000,40000,6000,500,false,())
def D13:TCT Bbq:=(30000,100000,6200,500,true,())
def Dd1:TCT Baf:=((50000,100000,()),1200,())
def nameG:ByteArray:=⟨#[103,114,101,101,110]⟩
def grn (d s:Int):TCT Ban:=(nameG,100000,200000,5000,[D12,D13],Dd1,1,1,[(d,s,0,())],())
abbrev Cc6:PureT:=Bbh [cI,cI] [Ban] (fun _=>true) (fun x=>(grn x.1 x.2.1,()))
theorem Cu4:Bai Tryz.prog 26 Cc6:=Bbj (Bas Bar puOk_nil (fns_cons is_green V1)) 5 (fun x=>.leaf (grn x.1 x.2.1,())) (fun x=>by kernel_rfl) fun _ _ _=>Baq rfl
def Bdy:TCT No:=(450,2946,())
abbrev C02:PureT:=Bbh [] [No] (fun _=>true) (fun _=>(Bdy,()))
theorem Cc7:Bai Tryz.prog 16 C02:=Bbj (Bas Bar puOk_nil (fns_cons is_round V1)) 5 (fun x=>.leaf (Bdy,())) (fun x=>by kernel_rfl) fun _ _ _=>Baq rfl
def spt (d:TCT Bbk):TCT cPt:=(W64 (Int.tdiv (W64 (W64 d.1*3)) 2),W64 (W64 d.2.1*3),())
abbrev C82:PureT:=Bbh [Bbk] [cPt] (fun _=>true) (fun x=>(spt x.1,()))
theorem Ckd:Bai Tryz.prog 22 C82:=Bbj (Bas Bar puOk_nil (fns_cons is_spot V1)) 5 (fun x=>.leaf (spt x.1,())) (fun x=>by kernel_rfl) fun _ _ _=>Baq rfl
end Tp
end V
end Go.Proofs.YtcfanlgpkefogaaGreat
namespace Go.Proofs.YtcfanlgpkefogaaGreat
open Go.RowKit
namespace V
namespace Tp
open St
abbrev kGb:List SK:=[.d .s,.d cI,.d cI,.d cI,.d (.sl Bbq),.d cI,.d cI,.d cI,.d cI,.d cI,.d (.sl Bc5),.o 70 No,.d cI,.d cI]
noncomputable def D3d:Code:=(Bak (bodyOf Tryz.f10)).getD 0 .skip
def D14:List BK:=[(1,41,kGr),(2,45,kSt),(8,41,kGb)]
def Bok:Lay:={ keys:=[2,8,9,11,12,13,14],ks:=[.d (.sl Bbk),.p 1 0 0 0,.p 2 0 0 0,.p 8 0 0 0,.o 31 cPt,.o 33 Baf,.d cI],bs:=D14,n:=97,nx:=1000,marks:=[] }
def D89:Lay:={ keys:=[2,8,9,11,12],ks:=[.d (.sl Bbk),.p 1 0 0 0,.p 2 0 0 0,.p 8 0 0 0,.o 31 cPt],bs:=D14,n:=97,nx:=1000,marks:=[] }
def D3e:Lay:={ keys:=[8,9,10],ks:=[.p 1 0 0 0,.p 2 0 0 0,.d .b],bs:=[(1,41,kGb),(2,45,kSt)],n:=97,nx:=1000,marks:=[] }
def Bl7:XE→Lay:=fun e=>match e with | .ret=>D3e | _=>D89
def plSet5:List (Nat×PureT):=(41,D11)::(26,Cc6)::(16,C02)::(22,C82)::(28,D1z)::[]
theorem puSet5:Bcd Tryz.prog plSet5:=puOk_cons is_May.plain D87 (puOk_cons is_green.plain Cu4 (puOk_cons is_round.plain Cc7 (puOk_cons is_spot.plain Ckd (puOk_cons is_sLie.plain Dad puOk_nil))))
noncomputable def D3f:Ctx:=ctx Tryz.prog plSet5 []
theorem Cgo:CtxOk D3f:=Bas Bar puSet5 V1
abbrev GbT:Type:=SKTs kGb
def lwb (g:GbT):TCT Ban:=(g.1,g.2.1,g.2.2.1,g.2.2.2.1,g.2.2.2.2.1,((g.2.2.2.2.2.1,g.2.2.2.2.2.2.1,()),g.2.2.2.2.2.2.2.1,()),g.2.2.2.2.2.2.2.2.1,g.2.2.2.2.2.2.2.2.2.1,g.2.2.2.2.2.2.2.2.2.2.1,())
def blb (g:GbT):List (TCT No):=g.2.2.2.2.2.2.2.2.2.2.2.1
def wbl (g:GbT) (b:List (TCT No)):GbT:=(g.1,g.2.1,g.2.2.1,g.2.2.2.1,g.2.2.2.2.1,g.2.2.2.2.2.1,g.2.2.2.2.2.2.1,g.2.2.2.2.2.2.2.1,g.2.2.2.2.2.2.2.2.1,g.2.2.2.2.2.2.2.2.2.1,g.2.2.2.2.2.2.2.2.2.2.1,b,g.2.2.2.2.2.2.2.2.2.2.2.2.1,g.2.2.2.2.2.2.2.2.2.2.2.2.2.1,())
structure QSt where
 l:List (TCT Bbk)
 g0:SKTs kGr
 s0:SKTs kSt
def Bg8 (p:TCT cPt):TCT Baf:=((p.1,p.2.1,()),2946,())
def C03 (q:QSt) (g:GbT) (i:Int) (ps:List (TCT cPt)) (os:List (TCT Baf)):Bok.T:=((q.l,(),(),(),ps,os,i,()),(q.g0,q.s0,g,()))
def C04 (q:QSt) (g:GbT) (ps:List (TCT cPt)):Fq Bl7:=⟨.exit 0,((q.l,(),(),(),ps,()),(q.g0,q.s0,g,()))⟩
def C83 (g:GbT):Fq Bl7:=⟨.ret,(((),(),false,()),(g,([],[],0,0,0,()),()))⟩
def C84 (q:QSt) (g:GbT) (i:Int) (ps:List (TCT cPt)) (os:List (TCT Baf)) (p:TCT cPt):Tree (Bok.T⊕Fq Bl7) :=
 bif C35 (lwb g) p 2946 os != 0 then .leaf (.inr (C83 g)) else bif !C36 (lwb g) p 2946 os then .leaf (.inr (C83 g)) else
 bif Bcs (blb g) [Bdy] 16 then bif Bcs ps [p] 16 then bif Bcs os [Bg8 p] 24 then .leaf (.inl (C03 q (wbl g (blb g++[Bdy])) (W64 (i+1)) (ps++[p]) (os++[Bg8 p]))) else .fail else .fail else .fail
def Bti (q:QSt) (g:GbT) (i:Int) (ps:List (TCT cPt)) (os:List (TCT Baf)):Tree (Bok.T⊕Fq Bl7) :=
 bif decide (i<(q.l.length:Int)) then inN q.l.length i (szT (lwb g) (C84 q g i ps os (spt (Bam q.l (Int.toNat i) (Baj Bbk))))) else .leaf (.inr (C04 q g ps))
def Bqb (x:Bok.T):Tree (Bok.T⊕Fq Bl7):=Bti ⟨x.1.1,x.2.1,x.2.2.1⟩ x.2.2.2.1 x.1.2.2.2.2.2.2.1 x.1.2.2.2.2.1 x.1.2.2.2.2.2.1
def C85 (x:Bok.T):Nat:=(x.1.1:List (TCT Bbk)).length+1
theorem D8a:Baw Tryz.prog 10 D3d (Bav Bok Bl7 (Bcm [.ret,.exit 0] Bqb C85)):=Bb9 Cgo 7 _ Bok Bl7 (fun e=>by cases e <;> exact Nat.le_refl _) [.ret,.exit 0] Bqb C85 (fun g=>by kernel_rfl)
def setF (w:TCT Ban) (l:List (TCT Bbk)) (i:Nat) (ps:List (TCT cPt)):List (TCT cPt)⊕List (TCT cPt) :=
 bif C35 w (spt (Bam l i (Baj Bbk))) 2946 (ps.map Bg8)!=0 then .inr ps else bif !C36 w (spt (Bam l i (Baj Bbk))) 2946 (ps.map Bg8) then .inr ps else .inl (ps++[spt (Bam l i (Baj Bbk))])
def gbN (g:GbT) (n:Nat):GbT:=wbl g (List.replicate n Bdy)
def Btj (q:QSt) (g:GbT):List (TCT cPt)⊕List (TCT cPt)→Fq Bl7
 | .inl ps=>C04 q (gbN g ps.length) ps
 | .inr ps=>C83 (gbN g ps.length)
theorem D3g {q:QSt} {g:GbT} (hl:q.l.length≤1000) (hs:((lwb g).1.size:Int)≤Bb2 .i64):iter Bqb (q.l.length+1) (C03 q (gbN g 0) 0 [] [])=some (Btj q g (Bap (setF (lwb g) q.l) 0 q.l.length [])):=by
 have key:=Bfx (st:=Bqb) q.l.length (fun i ps=>C03 q (gbN g i) (i:Int) ps (ps.map Bg8)) (setF (lwb g) q.l) (Btj q g) (fun i ps=>ps.length=i)
  (fun i ps hi hI=>by
   show (Bti q (gbN g i) (i:Int) ps (ps.map Bg8)).run=_
   unfold Bti inN
   rw [decide_eq_true (show (i:Int)<(q.l.length:Int) by omega),decide_eq_true (show 0≤(i:Int)∧(i:Int)<(q.l.length:Int) by omega),show Int.toNat (i:Int)=i by omega]
   show (szT (lwb g) (C84 q (gbN g i) (i:Int) ps (ps.map Bg8) (spt (Bam q.l i (Baj Bbk)))):Tree _).run=_
   rw [Bce hs]
   unfold C84 setF
   rw [show lwb (gbN g i)=lwb g from rfl]
   generalize spt (Bam q.l i (Baj Bbk))=p
   cases C35 (lwb g) p 2946 (ps.map Bg8)!=0 with
   | true=>simp only [cond_true,Cnu,Btj,hI];rfl
   | false =>
    cases !C36 (lwb g) p 2946 (ps.map Bg8) with
    | true=>simp only [cond_true,cond_false,Cnu,Btj,hI];rfl
    | false =>
     rw [Bb4 (n:=(i:Int)+1) (by omega) (by omega)]
     have e1:Bcs (blb (gbN g i)) [Bdy] 16=true:=by
      rw [Bel];exact decide_eq_true (by show (((List.replicate i Bdy).length+[Bdy].length:Nat):Int)*16≤_;rw [List.length_replicate];simp only [List.length_singleton];omega)
     have e2:Bcs ps [p] 16=true:=by rw [Bel];exact decide_eq_true (by simp only [List.length_singleton];omega)
     have e3:Bcs (ps.map Bg8) [Bg8 p] 24=true:=by rw [Bel];exact decide_eq_true (by simp only [List.length_singleton,List.length_map];omega)
     have e4:wbl (gbN g i) (blb (gbN g i)++[Bdy])=gbN g (i+1):=by
      show wbl g (List.replicate i Bdy++[Bdy])=wbl g (List.replicate (i+1) Bdy)
      rw [List.replicate_succ']
     have e5:ps.map Bg8++[Bg8 p]=(ps++[p]).map Bg8:=by rw [List.map_append];rfl
     rw [e1,e2,e3,e4,e5]
     rfl)
  (fun i ps ps' _ hI h=>by
   unfold setF at h
   cases h1:C35 (lwb g) (spt (Bam q.l i (Baj Bbk))) 2946 (ps.map Bg8)!=0 with
   | true=>rw [h1] at h;cases h
   | false =>
    cases h2:!C36 (lwb g) (spt (Bam q.l i (Baj Bbk))) 2946 (ps.map Bg8) with
    | true=>rw [h1,h2] at h;cases h
    | false =>
     rw [h1,h2] at h
     cases h
     rw [List.length_append,List.length_singleton,hI])
  (fun ps hI=>by
   show (Bti q (gbN g q.l.length) (q.l.length:Int) ps (ps.map Bg8)).run=_
   unfold Bti
   rw [decide_eq_false (show ¬ (q.l.length:Int)<(q.l.length:Int) by omega)]
   show some (Sum.inr (C04 q (gbN g q.l.length) ps))=some (Sum.inr (C04 q (gbN g ps.length) ps))
   rw [hI]) q.l.length 0 [] (by omega) rfl
 exact key
noncomputable def Cke:Ctx:=Bh4 Tryz.prog plSet5 [(10,Tryz.f10)] [((10,5),Bav Bok Bl7 (Bcm [.ret,.exit 0] Bqb C85))]
theorem Ckf:CtxOk Cke:=Bca Bar puSet5 (fns_cons is_set V1) (Bc0 (by kernel_rfl) (by kernel_rfl) D8a)
def gb0 (d s:Int) (x:TCT Bbv):GbT:=(nameG,100000,200000,5000,[D12,D13],50000,100000,1200,1,1,[(d,s,0,())],[],x.1,x.2.1,())
def g00:SKTs kGr:=(⟨#[]⟩,0,0,0,[],0,0,0,0,0,[],[],0,0,())
def s00:SKTs kSt:=([],[],0,0,0,())
def Cc8 (d s:Int) (l:List (TCT Bbk)) (x:TCT Bbv):Option (Fq Bl7):=iter Bqb (l.length+1) (C03 ⟨l,g00,s00⟩ (gb0 d s x) 0 [] [])
abbrev Cu5:=Tree (TCTs [cGr,cSt,.b])
def grb (g:GbT):TCT cGr:=(lwb g,blb g,(g.2.2.2.2.2.2.2.2.2.2.2.2.1,g.2.2.2.2.2.2.2.2.2.2.2.2.2.1,()),())
def Ckg (l:List (TCT Bbk)) (r:TCTs [cSt,cI]):Bool:=r.2.1==0&&(((msT r.1).length:Int)==(l.length:Int)&&((osT r.1).length:Int)==(l.length:Int))
def Ckh (l:List (TCT Bbk)) (g:GbT) (r:TCTs [cSt,cI]):Cu5:=bif r.2.1==0 then bif ((msT r.1).length:Int)==(l.length:Int) then .leaf (grb g,St.etaS r.1,((osT r.1).length:Int)==(l.length:Int),()) else .leaf (grb g,St.etaS r.1,false,()) else .leaf (grb g,St.etaS r.1,false,())
def Cki (g:GbT) (l:List (TCT Bbk)) (ps:List (TCT cPt)):Cu5:=szT (lwb g) (Ckh l g (Beq (grb g) ps))
def Ckj (y:Option (Fq Bl7)):Cu5:=bif isE .ret y then .leaf (grb (Bc2 .ret y).2.1,(Bc2 .ret y).2.2.1,(Bc2 .ret y).1.2.2.1,()) else bif isE (.exit 0) y then Cki (Bc2 (.exit 0) y).2.2.2.1 (Bc2 (.exit 0) y).1.1 (Bc2 (.exit 0) y).1.2.2.2.2.1 else .fail
theorem Ckk (x:TCTs [cI,cI,.sl Bbk,Bbv]):Bcr Cke 7 (.fn 10) (Bdd [cI,cI,.sl Bbk,Bbv] x) Bbz 0 (Bh7 Cke.P [cGr,cSt,.b])=Ckj (Cc8 x.1 x.2.1 x.2.2.1 x.2.2.2.1):=by kernel_rfl
def gN (d s:Int) (x:TCT Bbv) (n:Nat):TCT cGr:=(grn d s,List.replicate n Bdy,(x.1,x.2.1,()),())
abbrev Cu6:Type:=List (TCT cPt)⊕List (TCT cPt)
def Bn6 (d s:Int) (l:List (TCT Bbk)):Cu6:=Bap (setF (grn d s) l) 0 l.length []
def sN:Cu6→Nat
 | .inl p=>p.length
 | .inr p=>p.length
def sS (d s:Int) (x:TCT Bbv):Cu6→TCT cSt
 | .inl p=>St.etaS (Beq (gN d s x p.length) p).1
 | .inr _=>zS
def sB (d s:Int) (x:TCT Bbv) (l:List (TCT Bbk)):Cu6→Bool
 | .inl p=>Ckg l (Beq (gN d s x p.length) p)
 | .inr _=>false
abbrev D15:PureT:=Bbh [cI,cI,.sl Bbk,Bbv] [cGr,cSt,.b] (fun x=>decide (x.2.2.1.length≤1000)) (fun x=>(gN x.1 x.2.1 x.2.2.2.1 (sN (Bn6 x.1 x.2.1 x.2.2.1)),sS x.1 x.2.1 x.2.2.2.1 (Bn6 x.1 x.2.1 x.2.2.1),sB x.1 x.2.1 x.2.2.2.1 x.2.2.1 (Bn6 x.1 x.2.1 x.2.2.1),()))
theorem Bol (d s:Int):((grn d s).1.size:Int)≤Bb2 .i64:=by
 show ((nameG.size:Nat):Int)≤_
 decide
theorem Ckl {d s:Int} {l:List (TCT Bbk)} {x:TCT Bbv} (hl:l.length≤1000):(Ckj (Cc8 d s l x)).sat (fun y=>y=(gN d s x (sN (Bn6 d s l)),sS d s x (Bn6 d s l),sB d s x l (Bn6 d s l),())):=by
 have e:Cc8 d s l x=some (Btj ⟨l,g00,s00⟩ (gb0 d s x) (Bn6 d s l)):=D3g (q:=⟨l,g00,s00⟩) (g:=gb0 d s x) hl (Bol d s)
 rw [e]
 cases Bn6 d s l with
 | inr ps=>exact Baq rfl
 | inl ps =>
  show (Cki (gbN (gb0 d s x) ps.length) l ps).sat _
  unfold Cki
  rw [Bce (show (((lwb (gbN (gb0 d s x) ps.length)).1.size:Nat):Int)≤_ from Bol d s)]
  show (Ckh l (gbN (gb0 d s x) ps.length) (Beq (gN d s x ps.length) ps)).sat _
  unfold Ckh
  show (bif (Beq (gN d s x ps.length) ps).2.1==0 then bif ((msT (Beq (gN d s x ps.length) ps).1).length:Int)==(l.length:Int) then .leaf (gN d s x ps.length,St.etaS (Beq (gN d s x ps.length) ps).1,((osT (Beq (gN d s x ps.length) ps).1).length:Int)==(l.length:Int),()) else .leaf (gN d s x ps.length,St.etaS (Beq (gN d s x ps.length) ps).1,false,()) else .leaf (gN d s x ps.length,St.etaS (Beq (gN d s x ps.length) ps).1,false,()):Cu5).sat (fun y=>y=(gN d s x ps.length,St.etaS (Beq (gN d s x ps.length) ps).1,Ckg l (Beq (gN d s x ps.length) ps),()))
  unfold Ckg
  cases (Beq (gN d s x ps.length) ps).2.1==0 <;> cases ((msT (Beq (gN d s x ps.length) ps).1).length:Int)==(l.length:Int) <;> exact Baq rfl
theorem D16:Bai Tryz.prog 10 D15:=Bbj Ckf 7 (fun x=>Ckj (Cc8 x.1 x.2.1 x.2.2.1 x.2.2.2.1)) Ckk fun x hok _=>Ckl (of_decide_eq_true hok)
end Tp
end V
end Go.Proofs.YtcfanlgpkefogaaGreat
namespace Go.Proofs.YtcfanlgpkefogaaGreat
open Go.RowKit
namespace V
namespace Tp
open St
theorem is_works05:FnIs Tryz.prog (9,Tryz.f9):=⟨Tryz.func9,by kernel_rfl,by kernel_rfl⟩
theorem is_works04:FnIs Tryz.prog (17,Tryz.f17):=⟨Tryz.func17,by kernel_rfl,by kernel_rfl⟩
abbrev Bmf:PureT:=Bbh [] [.b] (fun _=>true) (fun _=>(true,()))
noncomputable def plWk:List (Nat×PureT):=[(43,Bit),(10,D15),(75,Bru)]
theorem puWk:Bcd Tryz.prog plWk:=puOk_cons Bib.plain Bk9 (puOk_cons is_set.plain D16 (puOk_cons is_lCheck.plain Boz puOk_nil))
theorem Bqc:Bai Tryz.prog 9 Bmf:=C2q (Bn3 (u:=20) Bar puWk Cde) 40 (fun _=>by kernel_rfl)
theorem Cgp:Bai Tryz.prog 17 Bmf:=C2q (Bn3 (u:=20) Bar puWk Cde) 40 (fun _=>by kernel_rfl)
abbrev Bdn:TC:=.st [.i .i16,.i .i16,.i .u32,.i .u8]
def Beg (w:TCT Bdn) (b:Int):TCT cBl:=(b,(W64 w.1,(bif W64 w.1==0&&(W64 w.2.1==0&&true) then 1 else W64 w.2.1),()),W64 (1+Int.tmod (W64 w.2.2.1) 2097152),Int.tmod (W64 w.2.2.2.1) 5,())
abbrev D3h:PureT:=Bbh [Bdn,cI] [cBl] (fun _=>true) (fun x=>(Beg x.1 x.2.1,()))
def Ckm (w:TCT Bdn) (b:Int):Tree (TCTs [cBl]):=bif W64 w.1==0&&(W64 w.2.1==0&&true) then .leaf ((b,(W64 w.1,1,()),W64 (1+Int.tmod (W64 w.2.2.1) 2097152),Int.tmod (W64 w.2.2.2.1) 5,()),()) else .leaf ((b,(W64 w.1,W64 w.2.1,()),W64 (1+Int.tmod (W64 w.2.2.1) 2097152),Int.tmod (W64 w.2.2.2.1) 5,()),())
theorem Ckn (w:TCT Bdn) (b:Int):(Ckm w b).sat (fun y=>y=(Beg w b,())):=by
 unfold Ckm Beg
 cases W64 w.1==0&&(W64 w.2.1==0&&true) <;> exact Baq rfl
theorem D3i:Bai Tryz.prog 12 D3h:=Bbj (Bas Bar puOk_nil (fns_cons is_blow V1)) 5 (fun x=>Ckm x.1 x.2.1) (fun x=>by kernel_rfl) fun x _ _=>Ckn _ _
def Cko (g:TCT cGr):TCT cGr:=Ch8 (Bcq g)
abbrev FGn:Type:=Int→Int→TCT Bbv→List (TCT Bbk)→TCT cGr
abbrev FSs:Type:=Int→Int→TCT Bbv→List (TCT Bbk)→TCT cSt
abbrev FBb:Type:=Int→Int→TCT Bbv→List (TCT Bbk)→Bool
abbrev FBl:Type:=TCT Bdn→Int→TCT cBl
abbrev FSk:Type:=TCT cGr→TCT cSt→TCT cBl→TkR
abbrev FTk:Type:=TCT cGr→TCT cSt→TkR
abbrev FTt:Type:=TCT cGr→TCT cSt→SKTs kPt
abbrev Cu7 (g:TCT cGr):Bool:=decide ((g.1.1.size:Int)≤Bb2 .i64)
def D17 (b:TCT cBl):TCT cBl:=(b.1,(b.2.1.1,b.2.1.2.1,()),b.2.2.1,b.2.2.2.1,())
abbrev C86 (G:FGn) (S:FSs) (B:FBb):PureT:=Bbh [cI,cI,.sl Bbk,Bbv] [cGr,cSt,.b] (fun x=>decide (x.2.2.1.length≤1000)) (fun x=>(Cko (G x.1 x.2.1 x.2.2.2.1 x.2.2.1),St.etaS (S x.1 x.2.1 x.2.2.2.1 x.2.2.1),B x.1 x.2.1 x.2.2.2.1 x.2.2.1,()))
abbrev C87 (W:FBl):PureT:=Bbh [Bdn,cI] [cBl] (fun _=>true) (fun x=>(D17 (W x.1 x.2.1),()))
abbrev D18 (F:FSk):PureT:=Bbh [cGr,cSt,cBl] [cSt,.sl cKn,cI] (fun x=>Cu7 x.1) (fun x=>Buw (F x.1 x.2.1 x.2.2.1))
abbrev D19 (F:FTk):PureT:=Bbh [cGr,cSt] [cSt,.sl cKn,cI] (fun x=>Cu7 x.1) (fun x=>Buw (F x.1 x.2.1))
abbrev D1a (V:FTt):PureT:=Bbh [cGr,cSt] [cPt,cI] (fun x=>Cu7 x.1) (fun x=>(((V x.1 x.2.1).1,(V x.1 x.2.1).2.1,()),Be0 x.1 x.2.1,()))
def Be8:FGn:=fun d s x l=>gN d s x (sN (Bn6 d s l))
def Bf5:FSs:=fun d s x l=>sS d s x (Bn6 d s l)
def Bfu:FBb:=fun d s x l=>sB d s x l (Bn6 d s l)
theorem Ckp:Bai Tryz.prog 10 (C86 Be8 Bf5 Bfu):=D16
theorem Ckq:Bai Tryz.prog 12 (C87 Beg):=D3i
end Tp
end V
end Go.Proofs.YtcfanlgpkefogaaGreat
