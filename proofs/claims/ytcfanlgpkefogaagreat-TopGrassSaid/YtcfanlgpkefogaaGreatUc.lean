import Derived.Test.YtcfanlgpkefogaaGreatUb
namespace Go.Proofs.YtcfanlgpkefogaaGreat
open Go.RowKit
namespace V
def Bgs (m r:Int):Bool:=!Bb6 m 400 500&&!Bb6 r 1000 4096
def Bfj (re dr:Int):Bool:=!Bb6 re 0 950&&!Bb6 dr 0 300
def Bn2 (m r px py mx my rx ry:Int):Bool:=Bgs m r&&(fpt px py&&(Bb3 mx my&&(!Bb6 rx (-(32*m)) (32*m-1)&&!Bb6 ry (-(32*m)) (32*m-1))))
def okE (b:Bool):Int:=bif b then 0 else 2
theorem is_CheckBall:FnIs Tryz.prog (125,Tryz.f125):=⟨Tryz.func125,by kernel_rfl,by kernel_rfl⟩
theorem is_CheckBounce:FnIs Tryz.prog (126,Tryz.f126):=⟨Tryz.func126,by kernel_rfl,by kernel_rfl⟩
theorem is_CheckMotion:FnIs Tryz.prog (55,Tryz.f55):=⟨Tryz.func55,by kernel_rfl,by kernel_rfl⟩
theorem is_rcheck:FnIs Tryz.prog (104,Tryz.f104):=⟨Tryz.func104,by kernel_rfl,by kernel_rfl⟩
def plA:List (Nat×PureT):=[(60,Cws),(59,Boa),(43,Bi0)]
theorem puA:Bc5 Tryz.prog plA:=puOk_cons is_coutside.plain Bn1 (puOk_cons is_strong.plain Cmz (puOk_cons Bhh.plain Bji puOk_nil))
def plR:List (Nat×PureT):=[]
theorem puR:Bc5 Tryz.prog plR:=puOk_nil
abbrev Bi1:PureT:=Bbc [Fq] [cI] (fun _=>true) (fun x=>(okE (Bgs x.1.1 x.1.2.1),()))
def Bkr (m r:Int):Tree (Int×Unit):=bif Bb6 m 400 500 then .leaf (2,()) else bif Bb6 r 1000 4096 then .leaf (2,()) else .leaf (0,())
def Bjj (m r:Int):Tree (Int×Unit):=bif !!Bb6 m 400 500 then .leaf (2,()) else bif !!Bb6 r 1000 4096 then .leaf (2,()) else .leaf (0,())
theorem Btu (m r:Int):(Bkr m r).sat (fun y=>y=(okE (Bgs m r),())):=by
 unfold Bkr Bgs okE;cases Bb6 m 400 500 <;> cases Bb6 r 1000 4096 <;> exact rfl
theorem Brf (m r:Int):(Bjj m r).sat (fun y=>y=(okE (Bgs m r),())):=by
 unfold Bjj Bgs okE;cases Bb6 m 400 500 <;> cases Bb6 r 1000 4096 <;> exact rfl
theorem Bqr:Bai Tryz.prog 125 Bi1:=Bbd (Bap Bao puA (fns_cons is_CheckBall No)) 2 (fun x=>Bkr x.1.1 x.1.2.1) (fun x=>by kernel_rfl) fun _ _ _=>Btu _ _
abbrev Bdv:PureT:=Bbc [Bbv] [cI] (fun _=>true) (fun x=>(okE (Bfj x.1.1 x.1.2.1),()))
def Bim (m r:Int):Tree (Int×Unit):=bif Bb6 m 0 950 then .leaf (2,()) else bif Bb6 r 0 300 then .leaf (2,()) else .leaf (0,())
def Bhi (m r:Int):Tree (Int×Unit):=bif !!Bb6 m 0 950 then .leaf (2,()) else bif !!Bb6 r 0 300 then .leaf (2,()) else .leaf (0,())
theorem Bps (m r:Int):(Bim m r).sat (fun y=>y=(okE (Bfj m r),())):=by
 unfold Bim Bfj okE;cases Bb6 m 0 950 <;> cases Bb6 r 0 300 <;> exact rfl
theorem Boc (m r:Int):(Bhi m r).sat (fun y=>y=(okE (Bfj m r),())):=by
 unfold Bhi Bfj okE;cases Bb6 m 0 950 <;> cases Bb6 r 0 300 <;> exact rfl
theorem Bin:Bai Tryz.prog 126 Bdv:=Bbd (Bap Bao puA (fns_cons is_CheckBounce No)) 2 (fun x=>Bim x.1.1 x.1.2.1) (fun x=>by kernel_rfl) fun _ _ _=>Bps _ _
def Bru (m r px py mx my rx ry:Int):Tree (Int×Unit) :=
 bif Bb6 m 400 500 then .leaf (2,()) else bif Bb6 r 1000 4096 then .leaf (2,()) else bif Bf8 px py != 0 then .leaf (2,()) else bif !Bb3 mx my then .leaf (2,()) else
 bif Bb6 rx (W64 (0-W64 (32*m))) (W64 (W64 (32*m)-1)) then .leaf (2,()) else bif Bb6 ry (W64 (0-W64 (32*m))) (W64 (W64 (32*m)-1)) then .leaf (2,()) else .leaf (0,())
def Btw (m r px py mx my rx ry:Int):Tree (Int×Unit) :=
 bif !!Bb6 m 400 500 then .leaf (2,()) else bif !!Bb6 r 1000 4096 then .leaf (2,()) else bif !fpt px py then .leaf (2,()) else bif !Bb3 mx my then .leaf (2,()) else
 bif !!Bb6 rx (W64 (0-W64 (32*m))) (W64 (W64 (32*m)-1)) then .leaf (2,()) else bif !!Bb6 ry (W64 (0-W64 (32*m))) (W64 (W64 (32*m)-1)) then .leaf (2,()) else .leaf (0,())
theorem Blr {m:Int} (h:Bb6 m 400 500=false):W64 (0-W64 (32*m)) = -(32*m)∧W64 (W64 (32*m)-1)=32*m-1:=by
 have ⟨h1,h2⟩:=Bdf h
 rw [show W64 (32*m)=32*m from Bah (by omega) (by omega)]
 exact ⟨(Bah (by omega) (by omega)).trans (by omega),Bah (by omega) (by omega)⟩
theorem Btx (m r px py mx my rx ry:Int):(Bru m r px py mx my rx ry).sat (fun y=>y=(okE (Bn2 m r px py mx my rx ry),())):=by
 unfold Bru Bn2 Bgs okE Bf8
 cases h:Bb6 m 400 500 with
 | true=>exact rfl
 | false =>
  rw [(Blr h).1,(Blr h).2]
  cases Bb6 r 1000 4096 <;> cases fpt px py <;> cases Bb3 mx my <;> cases Bb6 rx (-(32*m)) (32*m-1) <;> cases Bb6 ry (-(32*m)) (32*m-1) <;> exact rfl
theorem C3m (m r px py mx my rx ry:Int):(Btw m r px py mx my rx ry).sat (fun y=>y=(okE (Bn2 m r px py mx my rx ry),())):=by
 unfold Btw Bn2 Bgs okE
 cases h:Bb6 m 400 500 with
 | true=>exact rfl
 | false =>
  rw [(Blr h).1,(Blr h).2]
  cases Bb6 r 1000 4096 <;> cases fpt px py <;> cases Bb3 mx my <;> cases Bb6 rx (-(32*m)) (32*m-1) <;> cases Bb6 ry (-(32*m)) (32*m-1) <;> exact rfl
abbrev Bek:PureT:=Bbc [Fq,Baq] [cI] (fun _=>true) (fun x=>(okE (Bn2 x.1.1 x.1.2.1 x.2.1.1.1 x.2.1.1.2.1 x.2.1.2.1.1 x.2.1.2.1.2.1 x.2.1.2.2.1.1 x.2.1.2.2.1.2.1),()))
abbrev C3n:PureT:=Bbc [.st [Fq,Baq]] [cI] (fun _=>true) (fun x=>(okE (Bn2 x.1.1.1 x.1.1.2.1 x.1.2.1.1.1 x.1.2.1.1.2.1 x.1.2.1.2.1.1 x.1.2.1.2.1.2.1 x.1.2.1.2.2.1.1 x.1.2.1.2.2.1.2.1),()))
def plB:List (Nat×PureT):=(125,Bi1)::plA
theorem puB:Bc5 Tryz.prog plB:=puOk_cons is_CheckBall.plain Bqr puA
theorem Cn1:Bai Tryz.prog 104 C3n:=Bbd (Bap Bao puA (fns_cons is_rcheck (fns_cons is_CheckBall No))) 3
 (fun x=>Bru x.1.1.1 x.1.1.2.1 x.1.2.1.1.1 x.1.2.1.1.2.1 x.1.2.1.2.1.1 x.1.2.1.2.1.2.1 x.1.2.1.2.2.1.1 x.1.2.1.2.2.1.2.1) (fun x=>by kernel_rfl) fun _ _ _=>Btx _ _ _ _ _ _ _ _
theorem Bmd:Bai Tryz.prog 55 Bek:=Bbd (Bap Bao puA (fns_cons is_CheckMotion (fns_cons is_rcheck (fns_cons is_CheckBall No)))) 4
 (fun x=>Bru x.1.1 x.1.2.1 x.2.1.1.1 x.2.1.1.2.1 x.2.1.2.1.1 x.2.1.2.1.2.1 x.2.1.2.2.1.1 x.2.1.2.2.1.2.1) (fun x=>by kernel_rfl) fun _ _ _=>Btx _ _ _ _ _ _ _ _
end V
end Go.Proofs.YtcfanlgpkefogaaGreat
