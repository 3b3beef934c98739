import Derived.Test.YtcfanlgpkefogaaGreatAb
namespace Go.Proofs.YtcfanlgpkefogaaGreat
open Go.RowKit
namespace V
theorem is_cB1:FnIs Tryz.prog (111,Tryz.f111):=⟨Tryz.func111,by kernel_rfl,by kernel_rfl⟩
theorem is_vBall:FnIs Tryz.prog (77,Tryz.f77):=⟨Tryz.func77,by kernel_rfl,by kernel_rfl⟩
theorem is_ckBall:FnIs Tryz.prog (70,Tryz.f70):=⟨Tryz.func70,by kernel_rfl,by kernel_rfl⟩
def cbP (d:TCT Bag):Bool:=Bfs d.1.1 d.1.2.1 != 0||!St.inR d.2.1 1 16384
abbrev Cup:PureT:=Bbe [Bag] [.b] (fun _=>true) (fun x=>(cbP x.1,()))
def plCb0:List (Nat×PureT):=[(43,Bi3),(105,St.s_inR)]
theorem puCb0:Bc7 Tryz.prog plCb0:=puOk_cons Bhj.plain Bjh (puOk_cons St.is_between2.plain St.q_between2 puOk_nil)
theorem D1a:Bai Tryz.prog 111 Cup:=Bbg (Baq Bao puCb0 (fns_cons is_cB1 (fns_cons is_vBall V1))) 4 (fun x=>bif Bfs x.1.1.1 x.1.1.2.1 != 0 then .leaf (true,()) else .leaf (!St.inR x.1.2.1 1 16384,())) (fun x=>by kernel_rfl) fun x _ _=>by
 show (bif Bfs x.1.1.1 x.1.1.2.1 != 0 then Tree.leaf (true,()) else Tree.leaf (!St.inR x.1.2.1 1 16384,())).sat (fun y=>y=(Bfs x.1.1.1 x.1.1.2.1 != 0||!St.inR x.1.2.1 1 16384,()))
 cases Bfs x.1.1.1 x.1.1.2.1 != 0 <;> exact rfl
def plCb:List (Nat×PureT):=[(111,Cup)]
theorem puCb:Bc7 Tryz.prog plCb:=puOk_cons is_cB1.plain D1a puOk_nil
theorem is_ixDsc:FnIs Tryz.prog (131,Tryz.f131):=⟨Tryz.func131,by kernel_rfl,by kernel_rfl⟩
theorem is_cfDsc:FnIs Tryz.prog (89,Tryz.f89):=⟨Tryz.func89,by kernel_rfl,by kernel_rfl⟩
abbrev Bih:List SK:=[]
def Bei (k:SKTs Bih) (x:TCT (Bag)):Bool:=cbP x
noncomputable def C05:Code:=(Ban (bodyOf Tryz.f131)).getD 0 .skip
def Bj7:Lay:={ keys:=[0,1,7,8],ks:=[.d (.sl (Bag)),.f 111 [] Bih,.d cI,.d cI],bs:=[],n:=19,nx:=1000,marks:=[] }
def Cfj:Lay:={ keys:=[4],ks:=[.d cI],bs:=[],n:=19,nx:=1000,marks:=[] }
def Cfk:Lay:={ keys:=[],ks:=[],bs:=[],n:=19,nx:=1000,marks:=[] }
def Bhw:XE→Lay
 | .ret=>Cfj
 | _=>Cfk
def C06 (k:SKTs Bih) (l:List (TCT (Bag))) (n i:Int):Bj7.T:=((l,((),k),n,i,()),())
def Brd (i:Int):V2 Bhw:=⟨.ret,((i,()),())⟩
def Bre:V2 Bhw:=⟨.exit 0,((),())⟩
def Bj8 (k:SKTs Bih) (l:List (TCT (Bag))) (n:Int) (x:TCT (Bag)) (i:Int):Tree (Bj7.T⊕V2 Bhw):=bif Bei k x then .leaf (.inr (Brd i)) else .leaf (.inl (C06 k l n (W64 (i+1))))
def Cfl (k:SKTs Bih) (l:List (TCT (Bag))) (n i:Int):Tree (Bj7.T⊕V2 Bhw) :=
 bif decide (i<n) then bif decide (0≤i∧i<(l.length:Int)) then Bj8 k l n (Bas l i.toNat (Bap (Bag))) i else .fail else .leaf (.inr Bre)
def Bp9 (g:Bj7.T):Tree (V2 Bhw) :=
 .br (Bir g.1.2.2.1 g.1.2.2.2.1 g.1.1) (.br (g.1.1.any (Bei g.1.2.1.2)) (.leaf (Brd (g.1.1.findIdx (Bei g.1.2.1.2)))) (.leaf Bre)) .fail
theorem Coa:Bb0 Tryz.prog 131 C05 (Baz Bj7 Bhw Bp9):=by
 refine Be7 (X:=ctx Tryz.prog plCb []) (Baq Bao puCb V1) 7 131 (fun _=>none) (fun _ _ f h=>by simp at h) Bj7 Bhw (fun e=>by cases e <;> exact Nat.le_refl _) Bp9 (fun g=>Cfl g.1.2.1.2 g.1.1 g.1.2.2.1 g.1.2.2.2.1) (fun g=>by kernel_rfl) ?_
 rintro ⟨⟨l,⟨⟨⟩,k⟩,n,i,⟨⟩⟩,⟨⟩⟩ R hw hf
 obtain ⟨hf,h0⟩:=hf
 by_cases hc:n=(l.length:Int)∧i=0
 ·obtain ⟨rfl,rfl⟩:=hc
  have hf:=hf (decide_eq_true ⟨rfl,rfl⟩)
  refine Cnx l (Bap (Bag)) (Bex hw.1.1) (fun n i _=>C06 k l n i) (fun x i (_:Unit)=>bif Bei k x then .inr (Brd i) else .inl ()) (fun _=>Bre) (fun _=>True) (fun x i _=>Bj8 k l l.length x i) (fun i _=>rfl) ?_ () trivial ?_
  ·intro i _ hi Q _ _ hw1 hQ
   show (Bj8 k l l.length l[i] i).sat Q
   unfold Bj8
   rw [hw1]
   cases hp:Bei k l[i] with
   | true=>rw [hp] at hQ;exact hQ
   | false=>rw [hp] at hQ;exact hQ trivial
  ·rw [Bm5 (Bei k) (fun i=>Brd i) Bre l 0,Nat.zero_add]
   cases ha:l.any (Bei k) with
   | true=>exact hf.1 ha
   | false=>exact hf.2 ha
 ·exact (h0 (decide_eq_false hc)).elim
abbrev Cob:PureT:=Bid [.d (.sl (Bag)),.f 111 [] Bih] [cI] (fun _=>true) (fun x=>(bif x.1.any (Bei x.2.1.2) then (x.1.findIdx (Bei x.2.1.2):Int) else -1,()))
noncomputable def Coc:Ctx:=Bh4 Tryz.prog plCb [(131,Tryz.f131)] [((131,keyOf C05),Baz Bj7 Bhw Bp9)]
theorem C50:CtxOk Coc:=Bca Bao puCb (fns_cons is_ixDsc V1) (Bbv rfl (by kernel_rfl) Coa)
def C8i (k:SKTs Bih) (l:List (TCT (Bag))):Tree (Int×Unit):=bif Bir (l.length:Int) 0 l then bif l.any (Bei k) then .leaf ((l.findIdx (Bei k):Int),()) else .leaf (-1,()) else .fail
theorem C51 (k:SKTs Bih) (l:List (TCT (Bag))):(C8i k l).sat (fun y=>y=(bif l.any (Bei k) then (l.findIdx (Bei k):Int) else -1,())):=by
 refine Bld (decide_eq_true ⟨rfl,rfl⟩) ?_
 cases l.any (Bei k) <;> exact rfl
theorem Cod:Bai Tryz.prog 131 Cob:=Bml C50 8 (fun x=>C8i x.2.1.2 x.1) (fun x=>by kernel_rfl) fun x _ _=>C51 _ _
abbrev C8j:PureT:=Bid [.d (.sl (Bag)),.f 111 [] Bih] [.b] (fun _=>true) (fun x=>(x.1.any (Bei x.2.1.2),()))
theorem C52 (k:SKTs Bih) (l:List (TCT (Bag))):(Tree.leaf (decide ((bif l.any (Bei k) then (l.findIdx (Bei k):Int) else -1)≥0),()):Tree (Bool×Unit)).sat (fun y=>y=(l.any (Bei k),())):=by
 rw [Bp6];exact rfl
theorem Coe:Bai Tryz.prog 89 C8j:=Bml (Baq Bao (puOk_cons is_ixDsc.plain Cod puOk_nil) (fns_cons is_cfDsc V1)) 8 (fun x=>.leaf (decide ((bif x.1.any (Bei x.2.1.2) then (x.1.findIdx (Bei x.2.1.2):Int) else -1)≥0),())) (fun x=>by kernel_rfl) fun x _ _=>C52 _ _
def cbE (r:Int) (o:List (TCT Bag)):Int:=bif !St.inR r 1 16384 then 3 else bif decide ((o.length:Int)>12) then 6 else bif o.any cbP then 2 else 0
abbrev C07:PureT:=Bbe [cI,.sl Bag] [cI] (fun _=>true) (fun x=>(cbE x.1 x.2.1,()))
def plCb2:List (Nat×PureT):=[(105,St.s_inR),(89,C8j)]
theorem puCb2:Bc7 Tryz.prog plCb2:=puOk_cons St.is_between2.plain St.q_between2 (puOk_cons is_cfDsc.plain Coe puOk_nil)
def Brx (r:Int) (o:List (TCT Bag)):Tree (TCTs [cI]):=bif !St.inR r 1 16384 then .leaf (3,()) else bif decide ((o.length:Int)>12) then .leaf (6,()) else bif o.any (Bei ()) then .leaf (2,()) else .leaf (0,())
theorem C08 (r:Int) (o:List (TCT Bag)):(Brx r o).sat (fun y=>y=(cbE r o,())):=by
 unfold Brx cbE
 show (bif !St.inR r 1 16384 then .leaf (3,()) else bif decide ((o.length:Int)>12) then .leaf (6,()) else bif o.any cbP then .leaf (2,()) else .leaf (0,()):Tree (TCTs [cI])).sat _
 cases !St.inR r 1 16384 <;> cases decide ((o.length:Int)>12) <;> cases o.any cbP <;> exact rfl
theorem Cfm:Bai Tryz.prog 70 C07:=Bbg (Baq Bao puCb2 (fns_cons is_ckBall (fns_cons is_vBall V1))) 5 (fun x=>Brx x.1 x.2.1) (fun x=>by kernel_rfl) fun _ _ _=>C08 _ _
end V
end Go.Proofs.YtcfanlgpkefogaaGreat
