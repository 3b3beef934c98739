import Derived.Test.YtcfanlgpkefogaaGreatAa
namespace Go.Proofs.YtcfanlgpkefogaaGreat
open Go.RowKit
namespace V
theorem is_Concat:FnIs Tryz.prog (73,Tryz.f73):=⟨Tryz.func73,by kernel_rfl,by kernel_rfl⟩
theorem is_Grow:FnIs Tryz.prog (113,Tryz.f113):=⟨Tryz.func113,by kernel_rfl,by kernel_rfl⟩
abbrev By6:Type:=List (TCT Bag)
def ccA (a:By6):Int:=W64 (0+(a.length:Int))
def ccS (a b:By6):Int:=W64 (ccA a+(b.length:Int))
def ccZ (n:Int):By6:=List.take (Int.toNat 0) (List.replicate (Int.toNat n) (Bas Bag))
abbrev Cor:=Tree (TCTs [.sl Bag])
def ccK (z a b:By6):Cor:=bif Bd8 z a 24 then bif Bd8 (z++a) b 24 then .leaf (z++a++b,()) else .fail else .fail
def Cos (a b:By6):Cor :=
 bif decide (ccA a<0) then .fail else bif decide (ccS a b<0) then .fail else bif decide (ccS a b<0) then .fail else
 bif decide (W64 (ccS a b-W64 (0-0))>0) then
  bif decide (1≤W64 (ccS a b-W64 (0-0))∧W64 (ccS a b-W64 (0-0))≤65536∧W64 (ccS a b-W64 (0-0))*24≤281474976710656) then
   ccK (ccZ (W64 (ccS a b-W64 (0-0)))) a b
  else .fail
 else ccK [] a b
theorem Cfv {z a b:By6} (hz:z=[]) (h:a.length+b.length≤60000):(ccK z a b).sat (fun y=>y=(a++b,())):=by
 subst hz
 unfold ccK
 rw [Be3,Be3,decide_eq_true (by simp only [List.length_nil];omega),decide_eq_true (by simp only [List.nil_append];omega)]
 exact Ban rfl
theorem Cot {a b:By6} (h:a.length+b.length≤60000):(Cos a b).sat (fun y=>y=(a++b,())):=by
 unfold Cos
 have e1:ccA a=(a.length:Int):=by unfold ccA;rw [Bbb (by omega) (by omega)];omega
 have e2:ccS a b=(a.length:Int)+b.length:=by unfold ccS;rw [e1,Bbb (by omega) (by omega)]
 have e3:W64 (ccS a b-W64 (0-0))=(a.length:Int)+b.length:=by
  rw [show W64 (0-0)=0 from rfl,e2,Bbb (by omega) (by omega)];omega
 rw [e1,e2] at *
 rw [e3,decide_eq_false (show ¬ ((a.length:Int)<0) by omega),decide_eq_false (show ¬ ((a.length:Int)+b.length<0) by omega)]
 simp only [cond_false]
 cases h0:decide ((a.length:Int)+b.length>0) with
 | true =>
  have:=of_decide_eq_true h0
  rw [cond_true,decide_eq_true (by omega),cond_true]
  exact Cfv rfl h
 | false=>exact Cfv rfl h
def cc2 (l:List (List (TCT Bag))):Bool:=match l with
 | [a,b]=>decide (a.length+b.length≤60000)
 | _=>false
def ccV (l:List (List (TCT Bag))):By6:=match l with
 | [a,b]=>a++b
 | _=>[]
theorem Cfw {l:List (List (TCT Bag))} (h:cc2 l=true):∃ a b,l=[a,b]∧a.length+b.length≤60000:=by
 match l,h with
 | [a,b],h=>exact ⟨a,b,rfl,of_decide_eq_true h⟩
abbrev C0i:PureT:=Bbc [.sl (.sl Bag)] [.sl Bag] (fun x=>cc2 x.1) (fun x=>(ccV x.1,()))
noncomputable def Cfx:Ctx:=Cfh 3 Tryz.prog [] [(73,Tryz.f73),(113,Tryz.f113)]
theorem Cou:CtxOk Cfx:=Bp5 Bao puOk_nil (fns_cons is_Concat (fns_cons is_Grow No))
noncomputable def C8w (x:TCTs [.sl (.sl Bag)]):Cor:=Bcx Cfx 10 (.fn 73) (Bdi [.sl (.sl Bag)] x) Bbx 0 (Bgq Cfx.P [.sl Bag])
theorem Cck (x:TCTs [.sl (.sl Bag)]):Bcx Cfx 10 (.fn 73) (Bdi [.sl (.sl Bag)] x) Bbx 0 (Bgq Cfx.P [.sl Bag])=C8w x:=by kernel_rfl
theorem Cov (a b:By6):C8w ([a,b],())=Cos a b:=by kernel_rfl
def Cfy (l:List (List (TCT Bag))):Cor:=match l with
 | [a,b]=>Cos a b
 | _=>.fail
theorem Cfz (x:TCTs [.sl (.sl Bag)]) (h:cc2 x.1=true):C8w x=Cfy x.1:=by
 obtain ⟨l,⟨⟩⟩:=x
 obtain ⟨a,b,e,_⟩:=Cfw h
 have e:l=[a,b]:=e
 subst e
 exact Cov a b
theorem Cg0:Bai Tryz.prog 73 C0i:=D5w Cou 10 C8w (fun x=>Cfy x.1) Cck Cfz fun x h _=>by
 obtain ⟨a,b,e,hn⟩:=Cfw h
 show (Cfy x.1).sat (fun y=>y=(ccV x.1,()))
 rw [e]
 exact Cot hn
end V
end Go.Proofs.YtcfanlgpkefogaaGreat
