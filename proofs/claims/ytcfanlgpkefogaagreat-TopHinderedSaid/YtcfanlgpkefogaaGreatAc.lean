import Derived.Test.YtcfanlgpkefogaaGreatAb
namespace Go.Proofs.YtcfanlgpkefogaaGreat
open Go.RowKit
namespace V
theorem is_cB1:FnIs Tryz.prog (111,Tryz.f111):=⟨Tryz.func111,by kernel_rfl,by kernel_rfl⟩
theorem is_vBall:FnIs Tryz.prog (77,Tryz.f77):=⟨Tryz.func77,by kernel_rfl,by kernel_rfl⟩
theorem is_ckBall:FnIs Tryz.prog (70,Tryz.f70):=⟨Tryz.func70,by kernel_rfl,by kernel_rfl⟩
def cbP (d:TCT Baf):Bool:=Bgi d.1.1 d.1.2.1 != 0||!St.inR d.2.1 1 16384
abbrev D10:PureT:=Bbh [Baf] [.b] (fun _=>true) (fun x=>(cbP x.1,()))
def plCb0:List (Nat×PureT):=[(43,Bit),(105,St.s_inR)]
theorem puCb0:Bcd Tryz.prog plCb0:=puOk_cons Bib.plain Bk9 (puOk_cons St.is_between2.plain St.q_between2 puOk_nil)
theorem D83:Bai Tryz.prog 111 D10:=Bbj (Bas Bar puCb0 (fns_cons is_cB1 (fns_cons is_vBall V1))) 4 (fun x=>bif Bgi x.1.1.1 x.1.1.2.1 != 0 then .leaf (true,()) else .leaf (!St.inR x.1.2.1 1 16384,())) (fun x=>by kernel_rfl) fun x _ _=>by
 show (bif Bgi x.1.1.1 x.1.1.2.1 != 0 then Tree.leaf (true,()) else Tree.leaf (!St.inR x.1.2.1 1 16384,())).sat (fun y=>y=(Bgi x.1.1.1 x.1.1.2.1 != 0||!St.inR x.1.2.1 1 16384,()))
 cases Bgi x.1.1.1 x.1.1.2.1 != 0 <;> exact rfl
def plCb:List (Nat×PureT):=[(111,D10)]
theorem puCb:Bcd Tryz.prog plCb:=puOk_cons is_cB1.plain D83 puOk_nil
theorem is_ixDsc:FnIs Tryz.prog (131,Tryz.f131):=⟨Tryz.func131,by kernel_rfl,by kernel_rfl⟩
theorem is_cfDsc:FnIs Tryz.prog (89,Tryz.f89):=⟨Tryz.func89,by kernel_rfl,by kernel_rfl⟩
abbrev Bj6:List SK:=[]
def Bf4 (k:SKTs Bj6) (x:TCT (Baf)):Bool:=cbP x
noncomputable def C2x:Code:=(Bak (bodyOf Tryz.f131)).getD 0 .skip
def Bjx:Lay:={ keys:=[0,1,7,8],ks:=[.d (.sl (Baf)),.f 111 [] Bj6,.d cI,.d cI],bs:=[],n:=19,nx:=1000,marks:=[] }
def Ck5:Lay:={ keys:=[4],ks:=[.d cI],bs:=[],n:=19,nx:=1000,marks:=[] }
def Ck6:Lay:={ keys:=[],ks:=[],bs:=[],n:=19,nx:=1000,marks:=[] }
def Bin:XE→Lay
 | .ret=>Ck5
 | _=>Ck6
def C2y (k:SKTs Bj6) (l:List (TCT (Baf))) (n i:Int):Bjx.T:=((l,((),k),n,i,()),())
def Bsx (i:Int):Fq Bin:=⟨.ret,((i,()),())⟩
def Bsy:Fq Bin:=⟨.exit 0,((),())⟩
def Bjy (k:SKTs Bj6) (l:List (TCT (Baf))) (n:Int) (x:TCT (Baf)) (i:Int):Tree (Bjx.T⊕Fq Bin):=bif Bf4 k x then .leaf (.inr (Bsx i)) else .leaf (.inl (C2y k l n (W64 (i+1))))
def Ck7 (k:SKTs Bj6) (l:List (TCT (Baf))) (n i:Int):Tree (Bjx.T⊕Fq Bin) :=
 bif decide (i<n) then bif decide (0≤i∧i<(l.length:Int)) then Bjy k l n (Bam l i.toNat (Baj (Baf))) i else .fail else .leaf (.inr Bsy)
def Bqa (g:Bjx.T):Tree (Fq Bin) :=
 .br (Bjj g.1.2.2.1 g.1.2.2.2.1 g.1.1) (.br (g.1.1.any (Bf4 g.1.2.1.2)) (.leaf (Bsx (g.1.1.findIdx (Bf4 g.1.2.1.2)))) (.leaf Bsy)) .fail
theorem Ctt:Baw Tryz.prog 131 C2x (Bav Bjx Bin Bqa):=by
 refine Beu (X:=ctx Tryz.prog plCb []) (Bas Bar puCb V1) 7 131 (fun _=>none) (fun _ _ f h=>by simp at h) Bjx Bin (fun e=>by cases e <;> exact Nat.le_refl _) Bqa (fun g=>Ck7 g.1.2.1.2 g.1.1 g.1.2.2.1 g.1.2.2.2.1) (fun g=>by kernel_rfl) ?_
 rintro ⟨⟨l,⟨⟨⟩,k⟩,n,i,⟨⟩⟩,⟨⟩⟩ R hw hf
 obtain ⟨hf,h0⟩:=hf
 by_cases hc:n=(l.length:Int)∧i=0
 ·obtain ⟨rfl,rfl⟩:=hc
  have hf:=hf (decide_eq_true ⟨rfl,rfl⟩)
  refine Ctg l (Baj (Baf)) (Bez hw.1.1) (fun n i _=>C2y k l n i) (fun x i (_:Unit)=>bif Bf4 k x then .inr (Bsx i) else .inl ()) (fun _=>Bsy) (fun _=>True) (fun x i _=>Bjy k l l.length x i) (fun i _=>rfl) ?_ () trivial ?_
  ·intro i _ hi Q _ _ hw1 hQ
   show (Bjy k l l.length l[i] i).sat Q
   unfold Bjy
   rw [hw1]
   cases hp:Bf4 k l[i] with
   | true=>rw [hp] at hQ;exact hQ
   | false=>rw [hp] at hQ;exact hQ trivial
  ·rw [Bn2 (Bf4 k) (fun i=>Bsx i) Bsy l 0,Nat.zero_add]
   cases ha:l.any (Bf4 k) with
   | true=>exact hf.1 ha
   | false=>exact hf.2 ha
 ·exact (h0 (decide_eq_false hc)).elim
abbrev Ctu:PureT:=Bj3 [.d (.sl (Baf)),.f 111 [] Bj6] [cI] (fun _=>true) (fun x=>(bif x.1.any (Bf4 x.2.1.2) then (x.1.findIdx (Bf4 x.2.1.2):Int) else -1,()))
noncomputable def Ctv:Ctx:=Bh4 Tryz.prog plCb [(131,Tryz.f131)] [((131,keyOf C2x),Bav Bjx Bin Bqa)]
theorem C7y:CtxOk Ctv:=Bca Bar puCb (fns_cons is_ixDsc V1) (Bc0 rfl (by kernel_rfl) Ctt)
def Cc2 (k:SKTs Bj6) (l:List (TCT (Baf))):Tree (Int×Unit):=bif Bjj (l.length:Int) 0 l then bif l.any (Bf4 k) then .leaf ((l.findIdx (Bf4 k):Int),()) else .leaf (-1,()) else .fail
theorem C7z (k:SKTs Bj6) (l:List (TCT (Baf))):(Cc2 k l).sat (fun y=>y=(bif l.any (Bf4 k) then (l.findIdx (Bf4 k):Int) else -1,())):=by
 refine Bmb (decide_eq_true ⟨rfl,rfl⟩) ?_
 cases l.any (Bf4 k) <;> exact rfl
theorem Ctw:Bai Tryz.prog 131 Ctu:=Bnm C7y 8 (fun x=>Cc2 x.2.1.2 x.1) (fun x=>by kernel_rfl) fun x _ _=>C7z _ _
abbrev Cc3:PureT:=Bj3 [.d (.sl (Baf)),.f 111 [] Bj6] [.b] (fun _=>true) (fun x=>(x.1.any (Bf4 x.2.1.2),()))
theorem C80 (k:SKTs Bj6) (l:List (TCT (Baf))):(Tree.leaf (decide ((bif l.any (Bf4 k) then (l.findIdx (Bf4 k):Int) else -1)≥0),()):Tree (Bool×Unit)).sat (fun y=>y=(l.any (Bf4 k),())):=by
 rw [Bq8];exact rfl
theorem Cty:Bai Tryz.prog 89 Cc3:=Bnm (Bas Bar (puOk_cons is_ixDsc.plain Ctw puOk_nil) (fns_cons is_cfDsc V1)) 8 (fun x=>.leaf (decide ((bif x.1.any (Bf4 x.2.1.2) then (x.1.findIdx (Bf4 x.2.1.2):Int) else -1)≥0),())) (fun x=>by kernel_rfl) fun x _ _=>C80 _ _
def cbE (r:Int) (o:List (TCT Baf)):Int:=bif !St.inR r 1 16384 then 3 else bif decide ((o.length:Int)>12) then 6 else bif o.any cbP then 2 else 0
abbrev C2z:PureT:=Bbh [cI,.sl Baf] [cI] (fun _=>true) (fun x=>(cbE x.1 x.2.1,()))
def plCb2:List (Nat×PureT):=[(105,St.s_inR),(89,Cc3)]
theorem puCb2:Bcd Tryz.prog plCb2:=puOk_cons St.is_between2.plain St.q_between2 (puOk_cons is_cfDsc.plain Cty puOk_nil)
def Btg (r:Int) (o:List (TCT Baf)):Tree (TCTs [cI]):=bif !St.inR r 1 16384 then .leaf (3,()) else bif decide ((o.length:Int)>12) then .leaf (6,()) else bif o.any (Bf4 ()) then .leaf (2,()) else .leaf (0,())
theorem C30 (r:Int) (o:List (TCT Baf)):(Btg r o).sat (fun y=>y=(cbE r o,())):=by
 unfold Btg cbE
 show (bif !St.inR r 1 16384 then .leaf (3,()) else bif decide ((o.length:Int)>12) then .leaf (6,()) else bif o.any cbP then .leaf (2,()) else .leaf (0,()):Tree (TCTs [cI])).sat _
 cases !St.inR r 1 16384 <;> cases decide ((o.length:Int)>12) <;> cases o.any cbP <;> exact rfl
theorem Ck8:Bai Tryz.prog 70 C2z:=Bbj (Bas Bar puCb2 (fns_cons is_ckBall (fns_cons is_vBall V1))) 5 (fun x=>Btg x.1 x.2.1) (fun x=>by kernel_rfl) fun _ _ _=>C30 _ _
end V
end Go.Proofs.YtcfanlgpkefogaaGreat
