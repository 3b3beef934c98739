import Derived.Test.YtcfanlgpkefogaaGreatUb
namespace Go.Proofs.YtcfanlgpkefogaaGreat
open Go.RowKit
namespace V
def Bhd (m r:Int):Bool:=!Bb8 m 400 500&&!Bb8 r 1000 4096
def Be3 (re dr:Int):Bool:=!Bb8 re 0 950&&!Bb8 dr 0 300
def Bo1 (m r px py mx my rx ry:Int):Bool:=Bhd m r&&(fpt px py&&(Bb3 mx my&&(!Bb8 rx (-(32*m)) (32*m-1)&&!Bb8 ry (-(32*m)) (32*m-1))))
def okE (b:Bool):Int:=bif b then 0 else 2
theorem is_CheckBall:FnIs Tryz.prog (125,Tryz.f125):=⟨Tryz.func125,by kernel_rfl,by kernel_rfl⟩
theorem is_CheckBounce:FnIs Tryz.prog (126,Tryz.f126):=⟨Tryz.func126,by kernel_rfl,by kernel_rfl⟩
theorem is_CheckMotion:FnIs Tryz.prog (55,Tryz.f55):=⟨Tryz.func55,by kernel_rfl,by kernel_rfl⟩
theorem is_rcheck:FnIs Tryz.prog (104,Tryz.f104):=⟨Tryz.func104,by kernel_rfl,by kernel_rfl⟩
def plA:List (Nat×PureT):=[(60,D2u),(59,Bpe),(43,Bit)]
theorem puA:Bcd Tryz.prog plA:=puOk_cons is_coutside.plain Bo0 (puOk_cons is_strong.plain Crz (puOk_cons Bib.plain Bk9 puOk_nil))
def plR:List (Nat×PureT):=[]
theorem puR:Bcd Tryz.prog plR:=puOk_nil
abbrev Biu:PureT:=Bbh [No] [cI] (fun _=>true) (fun x=>(okE (Bhd x.1.1 x.1.2.1),()))
def Blm (m r:Int):Tree (Int×Unit):=bif Bb8 m 400 500 then .leaf (2,()) else bif Bb8 r 1000 4096 then .leaf (2,()) else .leaf (0,())
def Bka (m r:Int):Tree (Int×Unit):=bif !!Bb8 m 400 500 then .leaf (2,()) else bif !!Bb8 r 1000 4096 then .leaf (2,()) else .leaf (0,())
theorem Bvn (m r:Int):(Blm m r).sat (fun y=>y=(okE (Bhd m r),())):=by
 unfold Blm Bhd okE;cases Bb8 m 400 500 <;> cases Bb8 r 1000 4096 <;> exact rfl
theorem Bsv (m r:Int):(Bka m r).sat (fun y=>y=(okE (Bhd m r),())):=by
 unfold Bka Bhd okE;cases Bb8 m 400 500 <;> cases Bb8 r 1000 4096 <;> exact rfl
theorem Bs3:Bai Tryz.prog 125 Biu:=Bbj (Bas Bar puA (fns_cons is_CheckBall V1)) 2 (fun x=>Blm x.1.1 x.1.2.1) (fun x=>by kernel_rfl) fun _ _ _=>Bvn _ _
abbrev Beb:PureT:=Bbh [Bbv] [cI] (fun _=>true) (fun x=>(okE (Be3 x.1.1 x.1.2.1),()))
def Bje (m r:Int):Tree (Int×Unit):=bif Bb8 m 0 950 then .leaf (2,()) else bif Bb8 r 0 300 then .leaf (2,()) else .leaf (0,())
def Bic (m r:Int):Tree (Int×Unit):=bif !!Bb8 m 0 950 then .leaf (2,()) else bif !!Bb8 r 0 300 then .leaf (2,()) else .leaf (0,())
theorem Br0 (m r:Int):(Bje m r).sat (fun y=>y=(okE (Be3 m r),())):=by
 unfold Bje Be3 okE;cases Bb8 m 0 950 <;> cases Bb8 r 0 300 <;> exact rfl
theorem Bpg (m r:Int):(Bic m r).sat (fun y=>y=(okE (Be3 m r),())):=by
 unfold Bic Be3 okE;cases Bb8 m 0 950 <;> cases Bb8 r 0 300 <;> exact rfl
theorem Bjf:Bai Tryz.prog 126 Beb:=Bbj (Bas Bar puA (fns_cons is_CheckBounce V1)) 2 (fun x=>Bje x.1.1 x.1.2.1) (fun x=>by kernel_rfl) fun _ _ _=>Br0 _ _
def Bt8 (m r px py mx my rx ry:Int):Tree (Int×Unit) :=
 bif Bb8 m 400 500 then .leaf (2,()) else bif Bb8 r 1000 4096 then .leaf (2,()) else bif Bgi px py != 0 then .leaf (2,()) else bif !Bb3 mx my then .leaf (2,()) else
 bif Bb8 rx (W64 (0-W64 (32*m))) (W64 (W64 (32*m)-1)) then .leaf (2,()) else bif Bb8 ry (W64 (0-W64 (32*m))) (W64 (W64 (32*m)-1)) then .leaf (2,()) else .leaf (0,())
def Bvp (m r px py mx my rx ry:Int):Tree (Int×Unit) :=
 bif !!Bb8 m 400 500 then .leaf (2,()) else bif !!Bb8 r 1000 4096 then .leaf (2,()) else bif !fpt px py then .leaf (2,()) else bif !Bb3 mx my then .leaf (2,()) else
 bif !!Bb8 rx (W64 (0-W64 (32*m))) (W64 (W64 (32*m)-1)) then .leaf (2,()) else bif !!Bb8 ry (W64 (0-W64 (32*m))) (W64 (W64 (32*m)-1)) then .leaf (2,()) else .leaf (0,())
theorem Bmq {m:Int} (h:Bb8 m 400 500=false):W64 (0-W64 (32*m)) = -(32*m)∧W64 (W64 (32*m)-1)=32*m-1:=by
 have ⟨h1,h2⟩:=Bcj h
 rw [show W64 (32*m)=32*m from Fp (by omega) (by omega)]
 exact ⟨(Fp (by omega) (by omega)).trans (by omega),Fp (by omega) (by omega)⟩
theorem Bvq (m r px py mx my rx ry:Int):(Bt8 m r px py mx my rx ry).sat (fun y=>y=(okE (Bo1 m r px py mx my rx ry),())):=by
 unfold Bt8 Bo1 Bhd okE Bgi
 cases h:Bb8 m 400 500 with
 | true=>exact rfl
 | false =>
  rw [(Bmq h).1,(Bmq h).2]
  cases Bb8 r 1000 4096 <;> cases fpt px py <;> cases Bb3 mx my <;> cases Bb8 rx (-(32*m)) (32*m-1) <;> cases Bb8 ry (-(32*m)) (32*m-1) <;> exact rfl
theorem C6b (m r px py mx my rx ry:Int):(Bvp m r px py mx my rx ry).sat (fun y=>y=(okE (Bo1 m r px py mx my rx ry),())):=by
 unfold Bvp Bo1 Bhd okE
 cases h:Bb8 m 400 500 with
 | true=>exact rfl
 | false =>
  rw [(Bmq h).1,(Bmq h).2]
  cases Bb8 r 1000 4096 <;> cases fpt px py <;> cases Bb3 mx my <;> cases Bb8 rx (-(32*m)) (32*m-1) <;> cases Bb8 ry (-(32*m)) (32*m-1) <;> exact rfl
abbrev Bf8:PureT:=Bbh [No,Bat] [cI] (fun _=>true) (fun x=>(okE (Bo1 x.1.1 x.1.2.1 x.2.1.1.1 x.2.1.1.2.1 x.2.1.2.1.1 x.2.1.2.1.2.1 x.2.1.2.2.1.1 x.2.1.2.2.1.2.1),()))
abbrev C6c:PureT:=Bbh [.st [No,Bat]] [cI] (fun _=>true) (fun x=>(okE (Bo1 x.1.1.1 x.1.1.2.1 x.1.2.1.1.1 x.1.2.1.1.2.1 x.1.2.1.2.1.1 x.1.2.1.2.1.2.1 x.1.2.1.2.2.1.1 x.1.2.1.2.2.1.2.1),()))
def plB:List (Nat×PureT):=(125,Biu)::plA
theorem puB:Bcd Tryz.prog plB:=puOk_cons is_CheckBall.plain Bs3 puA
theorem Cs1:Bai Tryz.prog 104 C6c:=Bbj (Bas Bar puA (fns_cons is_rcheck (fns_cons is_CheckBall V1))) 3
 (fun x=>Bt8 x.1.1.1 x.1.1.2.1 x.1.2.1.1.1 x.1.2.1.1.2.1 x.1.2.1.2.1.1 x.1.2.1.2.1.2.1 x.1.2.1.2.2.1.1 x.1.2.1.2.2.1.2.1) (fun x=>by kernel_rfl) fun _ _ _=>Bvq _ _ _ _ _ _ _ _
theorem Bne:Bai Tryz.prog 55 Bf8:=Bbj (Bas Bar puA (fns_cons is_CheckMotion (fns_cons is_rcheck (fns_cons is_CheckBall V1)))) 4
 (fun x=>Bt8 x.1.1 x.1.2.1 x.2.1.1.1 x.2.1.1.2.1 x.2.1.2.1.1 x.2.1.2.1.2.1 x.2.1.2.2.1.1 x.2.1.2.2.1.2.1) (fun x=>by kernel_rfl) fun _ _ _=>Bvq _ _ _ _ _ _ _ _
end V
end Go.Proofs.YtcfanlgpkefogaaGreat
