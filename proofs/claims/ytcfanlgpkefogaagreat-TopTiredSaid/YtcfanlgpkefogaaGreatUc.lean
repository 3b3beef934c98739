import Derived.Test.YtcfanlgpkefogaaGreatUb
namespace Go.Proofs.YtcfanlgpkefogaaGreat
open Go.RowKit
namespace V
def Bgv (m r:Int):Bool:=!Bb6 m 400 500&&!Bb6 r 1000 4096
def Bdo (re dr:Int):Bool:=!Bb6 re 0 950&&!Bb6 dr 0 300
def Bmz (m r px py mx my rx ry:Int):Bool:=Bgv m r&&(fpt px py&&(Bb3 mx my&&(!Bb6 rx (-(32*m)) (32*m-1)&&!Bb6 ry (-(32*m)) (32*m-1))))
def okE (b:Bool):Int:=bif b then 0 else 2
theorem is_CheckBall:FnIs Tryz.prog (125,Tryz.f125):=⟨Tryz.func125,by kernel_rfl,by kernel_rfl⟩
theorem is_CheckBounce:FnIs Tryz.prog (126,Tryz.f126):=⟨Tryz.func126,by kernel_rfl,by kernel_rfl⟩
theorem is_CheckMotion:FnIs Tryz.prog (55,Tryz.f55):=⟨Tryz.func55,by kernel_rfl,by kernel_rfl⟩
theorem is_rcheck:FnIs Tryz.prog (104,Tryz.f104):=⟨Tryz.func104,by kernel_rfl,by kernel_rfl⟩
def plA:List (Nat×PureT):=[(60,Cw3),(59,Boa),(43,Bi3)]
theorem puA:Bc7 Tryz.prog plA:=puOk_cons is_coutside.plain Bmy (puOk_cons is_strong.plain Cmf (puOk_cons Bhj.plain Bjh puOk_nil))
def plR:List (Nat×PureT):=[]
theorem puR:Bc7 Tryz.prog plR:=puOk_nil
abbrev Bi4:PureT:=Bbe [Fq] [cI] (fun _=>true) (fun x=>(okE (Bgv x.1.1 x.1.2.1),()))
def Bkp (m r:Int):Tree (Int×Unit):=bif Bb6 m 400 500 then .leaf (2,()) else bif Bb6 r 1000 4096 then .leaf (2,()) else .leaf (0,())
def Bji (m r:Int):Tree (Int×Unit):=bif !!Bb6 m 400 500 then .leaf (2,()) else bif !!Bb6 r 1000 4096 then .leaf (2,()) else .leaf (0,())
theorem Bth (m r:Int):(Bkp m r).sat (fun y=>y=(okE (Bgv m r),())):=by
 unfold Bkp Bgv okE;cases Bb6 m 400 500 <;> cases Bb6 r 1000 4096 <;> exact rfl
theorem Brb (m r:Int):(Bji m r).sat (fun y=>y=(okE (Bgv m r),())):=by
 unfold Bji Bgv okE;cases Bb6 m 400 500 <;> cases Bb6 r 1000 4096 <;> exact rfl
theorem Bqo:Bai Tryz.prog 125 Bi4:=Bbg (Baq Bao puA (fns_cons is_CheckBall V1)) 2 (fun x=>Bkp x.1.1 x.1.2.1) (fun x=>by kernel_rfl) fun _ _ _=>Bth _ _
abbrev Bdv:PureT:=Bbe [Bbu] [cI] (fun _=>true) (fun x=>(okE (Bdo x.1.1 x.1.2.1),()))
def Bim (m r:Int):Tree (Int×Unit):=bif Bb6 m 0 950 then .leaf (2,()) else bif Bb6 r 0 300 then .leaf (2,()) else .leaf (0,())
def Bhk (m r:Int):Tree (Int×Unit):=bif !!Bb6 m 0 950 then .leaf (2,()) else bif !!Bb6 r 0 300 then .leaf (2,()) else .leaf (0,())
theorem Bpq (m r:Int):(Bim m r).sat (fun y=>y=(okE (Bdo m r),())):=by
 unfold Bim Bdo okE;cases Bb6 m 0 950 <;> cases Bb6 r 0 300 <;> exact rfl
theorem Boc (m r:Int):(Bhk m r).sat (fun y=>y=(okE (Bdo m r),())):=by
 unfold Bhk Bdo okE;cases Bb6 m 0 950 <;> cases Bb6 r 0 300 <;> exact rfl
theorem Bin:Bai Tryz.prog 126 Bdv:=Bbg (Baq Bao puA (fns_cons is_CheckBounce V1)) 2 (fun x=>Bim x.1.1 x.1.2.1) (fun x=>by kernel_rfl) fun _ _ _=>Bpq _ _
def Bro (m r px py mx my rx ry:Int):Tree (Int×Unit) :=
 bif Bb6 m 400 500 then .leaf (2,()) else bif Bb6 r 1000 4096 then .leaf (2,()) else bif Bfs px py != 0 then .leaf (2,()) else bif !Bb3 mx my then .leaf (2,()) else
 bif Bb6 rx (W64 (0-W64 (32*m))) (W64 (W64 (32*m)-1)) then .leaf (2,()) else bif Bb6 ry (W64 (0-W64 (32*m))) (W64 (W64 (32*m)-1)) then .leaf (2,()) else .leaf (0,())
def Btj (m r px py mx my rx ry:Int):Tree (Int×Unit) :=
 bif !!Bb6 m 400 500 then .leaf (2,()) else bif !!Bb6 r 1000 4096 then .leaf (2,()) else bif !fpt px py then .leaf (2,()) else bif !Bb3 mx my then .leaf (2,()) else
 bif !!Bb6 rx (W64 (0-W64 (32*m))) (W64 (W64 (32*m)-1)) then .leaf (2,()) else bif !!Bb6 ry (W64 (0-W64 (32*m))) (W64 (W64 (32*m)-1)) then .leaf (2,()) else .leaf (0,())
theorem Bls {m:Int} (h:Bb6 m 400 500=false):W64 (0-W64 (32*m)) = -(32*m)∧W64 (W64 (32*m)-1)=32*m-1:=by
 have ⟨h1,h2⟩:=Bc9 h
 rw [show W64 (32*m)=32*m from Fp (by omega) (by omega)]
 exact ⟨(Fp (by omega) (by omega)).trans (by omega),Fp (by omega) (by omega)⟩
theorem Btk (m r px py mx my rx ry:Int):(Bro m r px py mx my rx ry).sat (fun y=>y=(okE (Bmz m r px py mx my rx ry),())):=by
 unfold Bro Bmz Bgv okE Bfs
 cases h:Bb6 m 400 500 with
 | true=>exact rfl
 | false =>
  rw [(Bls h).1,(Bls h).2]
  cases Bb6 r 1000 4096 <;> cases fpt px py <;> cases Bb3 mx my <;> cases Bb6 rx (-(32*m)) (32*m-1) <;> cases Bb6 ry (-(32*m)) (32*m-1) <;> exact rfl
theorem C3c (m r px py mx my rx ry:Int):(Btj m r px py mx my rx ry).sat (fun y=>y=(okE (Bmz m r px py mx my rx ry),())):=by
 unfold Btj Bmz Bgv okE
 cases h:Bb6 m 400 500 with
 | true=>exact rfl
 | false =>
  rw [(Bls h).1,(Bls h).2]
  cases Bb6 r 1000 4096 <;> cases fpt px py <;> cases Bb3 mx my <;> cases Bb6 rx (-(32*m)) (32*m-1) <;> cases Bb6 ry (-(32*m)) (32*m-1) <;> exact rfl
abbrev Bel:PureT:=Bbe [Fq,Baw] [cI] (fun _=>true) (fun x=>(okE (Bmz x.1.1 x.1.2.1 x.2.1.1.1 x.2.1.1.2.1 x.2.1.2.1.1 x.2.1.2.1.2.1 x.2.1.2.2.1.1 x.2.1.2.2.1.2.1),()))
abbrev C3d:PureT:=Bbe [.st [Fq,Baw]] [cI] (fun _=>true) (fun x=>(okE (Bmz x.1.1.1 x.1.1.2.1 x.1.2.1.1.1 x.1.2.1.1.2.1 x.1.2.1.2.1.1 x.1.2.1.2.1.2.1 x.1.2.1.2.2.1.1 x.1.2.1.2.2.1.2.1),()))
def plB:List (Nat×PureT):=(125,Bi4)::plA
theorem puB:Bc7 Tryz.prog plB:=puOk_cons is_CheckBall.plain Bqo puA
theorem Cmh:Bai Tryz.prog 104 C3d:=Bbg (Baq Bao puA (fns_cons is_rcheck (fns_cons is_CheckBall V1))) 3
 (fun x=>Bro x.1.1.1 x.1.1.2.1 x.1.2.1.1.1 x.1.2.1.1.2.1 x.1.2.1.2.1.1 x.1.2.1.2.1.2.1 x.1.2.1.2.2.1.1 x.1.2.1.2.2.1.2.1) (fun x=>by kernel_rfl) fun _ _ _=>Btk _ _ _ _ _ _ _ _
theorem Bmd:Bai Tryz.prog 55 Bel:=Bbg (Baq Bao puA (fns_cons is_CheckMotion (fns_cons is_rcheck (fns_cons is_CheckBall V1)))) 4
 (fun x=>Bro x.1.1 x.1.2.1 x.2.1.1.1 x.2.1.1.2.1 x.2.1.2.1.1 x.2.1.2.1.2.1 x.2.1.2.2.1.1 x.2.1.2.2.1.2.1) (fun x=>by kernel_rfl) fun _ _ _=>Btk _ _ _ _ _ _ _ _
end V
end Go.Proofs.YtcfanlgpkefogaaGreat
