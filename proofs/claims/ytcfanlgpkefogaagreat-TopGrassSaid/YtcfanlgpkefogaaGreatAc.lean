import Derived.Test.YtcfanlgpkefogaaGreatAb
namespace Go.Proofs.YtcfanlgpkefogaaGreat
open Go.RowKit
namespace V
theorem is_cB1:FnIs Tryz.prog (111,Tryz.f111):=⟨Tryz.func111,by kernel_rfl,by kernel_rfl⟩
theorem is_vBall:FnIs Tryz.prog (77,Tryz.f77):=⟨Tryz.func77,by kernel_rfl,by kernel_rfl⟩
theorem is_ckBall:FnIs Tryz.prog (70,Tryz.f70):=⟨Tryz.func70,by kernel_rfl,by kernel_rfl⟩
def cbP (d:TCT Bag):Bool:=Bf8 d.1.1 d.1.2.1 != 0||!St.inR d.2.1 1 16384
abbrev Cvc:PureT:=Bbc [Bag] [.b] (fun _=>true) (fun x=>(cbP x.1,()))
def plCb0:List (Nat×PureT):=[(43,Bi0),(105,St.s_inR)]
theorem puCb0:Bc5 Tryz.prog plCb0:=puOk_cons Bhh.plain Bji (puOk_cons St.is_between2.plain St.q_between2 puOk_nil)
theorem D1x:Bai Tryz.prog 111 Cvc:=Bbd (Bap Bao puCb0 (fns_cons is_cB1 (fns_cons is_vBall No))) 4 (fun x=>bif Bf8 x.1.1.1 x.1.1.2.1 != 0 then .leaf (true,()) else .leaf (!St.inR x.1.2.1 1 16384,())) (fun x=>by kernel_rfl) fun x _ _=>by
 show (bif Bf8 x.1.1.1 x.1.1.2.1 != 0 then Tree.leaf (true,()) else Tree.leaf (!St.inR x.1.2.1 1 16384,())).sat (fun y=>y=(Bf8 x.1.1.1 x.1.1.2.1 != 0||!St.inR x.1.2.1 1 16384,()))
 cases Bf8 x.1.1.1 x.1.1.2.1 != 0 <;> exact rfl
def plCb:List (Nat×PureT):=[(111,Cvc)]
theorem puCb:Bc5 Tryz.prog plCb:=puOk_cons is_cB1.plain D1x puOk_nil
theorem is_ixDsc:FnIs Tryz.prog (131,Tryz.f131):=⟨Tryz.func131,by kernel_rfl,by kernel_rfl⟩
theorem is_cfDsc:FnIs Tryz.prog (89,Tryz.f89):=⟨Tryz.func89,by kernel_rfl,by kernel_rfl⟩
abbrev Bie:List SK:=[]
def Beh (k:SKTs Bie) (x:TCT (Bag)):Bool:=cbP x
noncomputable def C0j:Code:=(Bal (bodyOf Tryz.f131)).getD 0 .skip
def Bj7:Lay:={ keys:=[0,1,7,8],ks:=[.d (.sl (Bag)),.f 111 [] Bie,.d cI,.d cI],bs:=[],n:=19,nx:=1000,marks:=[] }
def Cg1:Lay:={ keys:=[4],ks:=[.d cI],bs:=[],n:=19,nx:=1000,marks:=[] }
def Cg2:Lay:={ keys:=[],ks:=[],bs:=[],n:=19,nx:=1000,marks:=[] }
def Bht:XE→Lay
 | .ret=>Cg1
 | _=>Cg2
def C0k (k:SKTs Bie) (l:List (TCT (Bag))) (n i:Int):Bj7.T:=((l,((),k),n,i,()),())
def Bri (i:Int):V1 Bht:=⟨.ret,((i,()),())⟩
def Brj:V1 Bht:=⟨.exit 0,((),())⟩
def Bj8 (k:SKTs Bie) (l:List (TCT (Bag))) (n:Int) (x:TCT (Bag)) (i:Int):Tree (Bj7.T⊕V1 Bht):=bif Beh k x then .leaf (.inr (Bri i)) else .leaf (.inl (C0k k l n (W64 (i+1))))
def Cg3 (k:SKTs Bie) (l:List (TCT (Bag))) (n i:Int):Tree (Bj7.T⊕V1 Bht) :=
 bif decide (i<n) then bif decide (0≤i∧i<(l.length:Int)) then Bj8 k l n (Bav l i.toNat (Bas (Bag))) i else .fail else .leaf (.inr Brj)
def Bp8 (g:Bj7.T):Tree (V1 Bht) :=
 .br (Bir g.1.2.2.1 g.1.2.2.2.1 g.1.1) (.br (g.1.1.any (Beh g.1.2.1.2)) (.leaf (Bri (g.1.1.findIdx (Beh g.1.2.1.2)))) (.leaf Brj)) .fail
theorem Cow:Bb0 Tryz.prog 131 C0j (Baw Bj7 Bht Bp8):=by
 refine Bdw (X:=ctx Tryz.prog plCb []) (Bap Bao puCb No) 7 131 (fun _=>none) (fun _ _ f h=>by simp at h) Bj7 Bht (fun e=>by cases e <;> exact Nat.le_refl _) Bp8 (fun g=>Cg3 g.1.2.1.2 g.1.1 g.1.2.2.1 g.1.2.2.2.1) (fun g=>by kernel_rfl) ?_
 rintro ⟨⟨l,⟨⟨⟩,k⟩,n,i,⟨⟩⟩,⟨⟩⟩ R hw hf
 obtain ⟨hf,h0⟩:=hf
 by_cases hc:n=(l.length:Int)∧i=0
 ·obtain ⟨rfl,rfl⟩:=hc
  have hf:=hf (decide_eq_true ⟨rfl,rfl⟩)
  refine Coi l (Bas (Bag)) (Bew hw.1.1) (fun n i _=>C0k k l n i) (fun x i (_:Unit)=>bif Beh k x then .inr (Bri i) else .inl ()) (fun _=>Brj) (fun _=>True) (fun x i _=>Bj8 k l l.length x i) (fun i _=>rfl) ?_ () trivial ?_
  ·intro i _ hi Q _ _ hw1 hQ
   show (Bj8 k l l.length l[i] i).sat Q
   unfold Bj8
   rw [hw1]
   cases hp:Beh k l[i] with
   | true=>rw [hp] at hQ;exact hQ
   | false=>rw [hp] at hQ;exact hQ trivial
  ·rw [Bm4 (Beh k) (fun i=>Bri i) Brj l 0,Nat.zero_add]
   cases ha:l.any (Beh k) with
   | true=>exact hf.1 ha
   | false=>exact hf.2 ha
 ·exact (h0 (decide_eq_false hc)).elim
abbrev Cox:PureT:=Bib [.d (.sl (Bag)),.f 111 [] Bie] [cI] (fun _=>true) (fun x=>(bif x.1.any (Beh x.2.1.2) then (x.1.findIdx (Beh x.2.1.2):Int) else -1,()))
noncomputable def Coy:Ctx:=Bgo Tryz.prog plCb [(131,Tryz.f131)] [((131,keyOf C0j),Baw Bj7 Bht Bp8)]
theorem C5d:CtxOk Coy:=Bc8 Bao puCb (fns_cons is_ixDsc No) (Bbt rfl (by kernel_rfl) Cow)
def C8x (k:SKTs Bie) (l:List (TCT (Bag))):Tree (Int×Unit):=bif Bir (l.length:Int) 0 l then bif l.any (Beh k) then .leaf ((l.findIdx (Beh k):Int),()) else .leaf (-1,()) else .fail
theorem C5e (k:SKTs Bie) (l:List (TCT (Bag))):(C8x k l).sat (fun y=>y=(bif l.any (Beh k) then (l.findIdx (Beh k):Int) else -1,())):=by
 refine Ble (decide_eq_true ⟨rfl,rfl⟩) ?_
 cases l.any (Beh k) <;> exact rfl
theorem Coz:Bai Tryz.prog 131 Cox:=Bmm C5d 8 (fun x=>C8x x.2.1.2 x.1) (fun x=>by kernel_rfl) fun x _ _=>C5e _ _
abbrev C8y:PureT:=Bib [.d (.sl (Bag)),.f 111 [] Bie] [.b] (fun _=>true) (fun x=>(x.1.any (Beh x.2.1.2),()))
theorem C5f (k:SKTs Bie) (l:List (TCT (Bag))):(Tree.leaf (decide ((bif l.any (Beh k) then (l.findIdx (Beh k):Int) else -1)≥0),()):Tree (Bool×Unit)).sat (fun y=>y=(l.any (Beh k),())):=by
 rw [Bp4];exact rfl
theorem Cp0:Bai Tryz.prog 89 C8y:=Bmm (Bap Bao (puOk_cons is_ixDsc.plain Coz puOk_nil) (fns_cons is_cfDsc No)) 8 (fun x=>.leaf (decide ((bif x.1.any (Beh x.2.1.2) then (x.1.findIdx (Beh x.2.1.2):Int) else -1)≥0),())) (fun x=>by kernel_rfl) fun x _ _=>C5f _ _
def cbE (r:Int) (o:List (TCT Bag)):Int:=bif !St.inR r 1 16384 then 3 else bif decide ((o.length:Int)>12) then 6 else bif o.any cbP then 2 else 0
abbrev C0l:PureT:=Bbc [cI,.sl Bag] [cI] (fun _=>true) (fun x=>(cbE x.1 x.2.1,()))
def plCb2:List (Nat×PureT):=[(105,St.s_inR),(89,C8y)]
theorem puCb2:Bc5 Tryz.prog plCb2:=puOk_cons St.is_between2.plain St.q_between2 (puOk_cons is_cfDsc.plain Cp0 puOk_nil)
def Bs3 (r:Int) (o:List (TCT Bag)):Tree (TCTs [cI]):=bif !St.inR r 1 16384 then .leaf (3,()) else bif decide ((o.length:Int)>12) then .leaf (6,()) else bif o.any (Beh ()) then .leaf (2,()) else .leaf (0,())
theorem C0m (r:Int) (o:List (TCT Bag)):(Bs3 r o).sat (fun y=>y=(cbE r o,())):=by
 unfold Bs3 cbE
 show (bif !St.inR r 1 16384 then .leaf (3,()) else bif decide ((o.length:Int)>12) then .leaf (6,()) else bif o.any cbP then .leaf (2,()) else .leaf (0,()):Tree (TCTs [cI])).sat _
 cases !St.inR r 1 16384 <;> cases decide ((o.length:Int)>12) <;> cases o.any cbP <;> exact rfl
theorem Cg4:Bai Tryz.prog 70 C0l:=Bbd (Bap Bao puCb2 (fns_cons is_ckBall (fns_cons is_vBall No))) 5 (fun x=>Bs3 x.1 x.2.1) (fun x=>by kernel_rfl) fun _ _ _=>C0m _ _
end V
end Go.Proofs.YtcfanlgpkefogaaGreat
