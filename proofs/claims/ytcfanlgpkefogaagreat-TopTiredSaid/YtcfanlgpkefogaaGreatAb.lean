import Derived.Test.YtcfanlgpkefogaaGreatAa
namespace Go.Proofs.YtcfanlgpkefogaaGreat
open Go.RowKit
namespace V
theorem is_Concat:FnIs Tryz.prog (73,Tryz.f73):=⟨Tryz.func73,by kernel_rfl,by kernel_rfl⟩
theorem is_Grow:FnIs Tryz.prog (113,Tryz.f113):=⟨Tryz.func113,by kernel_rfl,by kernel_rfl⟩
abbrev Bxz:Type:=List (TCT Bag)
def ccA (a:Bxz):Int:=W64 (0+(a.length:Int))
def ccS (a b:Bxz):Int:=W64 (ccA a+(b.length:Int))
def ccZ (n:Int):Bxz:=List.take (Int.toNat 0) (List.replicate (Int.toNat n) (Bap Bag))
abbrev Co5:=Tree (TCTs [.sl Bag])
def ccK (z a b:Bxz):Co5:=bif Bd9 z a 24 then bif Bd9 (z++a) b 24 then .leaf (z++a++b,()) else .fail else .fail
def Co6 (a b:Bxz):Co5 :=
 bif decide (ccA a<0) then .fail else bif decide (ccS a b<0) then .fail else bif decide (ccS a b<0) then .fail else
 bif decide (W64 (ccS a b-W64 (0-0))>0) then
  bif decide (1≤W64 (ccS a b-W64 (0-0))∧W64 (ccS a b-W64 (0-0))≤65536∧W64 (ccS a b-W64 (0-0))*24≤281474976710656) then
   ccK (ccZ (W64 (ccS a b-W64 (0-0)))) a b
  else .fail
 else ccK [] a b
theorem Cfd {z a b:Bxz} (hz:z=[]) (h:a.length+b.length≤60000):(ccK z a b).sat (fun y=>y=(a++b,())):=by
 subst hz
 unfold ccK
 rw [Be2,Be2,decide_eq_true (by simp only [List.length_nil];omega),decide_eq_true (by simp only [List.nil_append];omega)]
 exact Bam rfl
theorem Co7 {a b:Bxz} (h:a.length+b.length≤60000):(Co6 a b).sat (fun y=>y=(a++b,())):=by
 unfold Co6
 have e1:ccA a=(a.length:Int):=by unfold ccA;rw [Bbc (by omega) (by omega)];omega
 have e2:ccS a b=(a.length:Int)+b.length:=by unfold ccS;rw [e1,Bbc (by omega) (by omega)]
 have e3:W64 (ccS a b-W64 (0-0))=(a.length:Int)+b.length:=by
  rw [show W64 (0-0)=0 from rfl,e2,Bbc (by omega) (by omega)];omega
 rw [e1,e2] at *
 rw [e3,decide_eq_false (show ¬ ((a.length:Int)<0) by omega),decide_eq_false (show ¬ ((a.length:Int)+b.length<0) by omega)]
 simp only [cond_false]
 cases h0:decide ((a.length:Int)+b.length>0) with
 | true =>
  have:=of_decide_eq_true h0
  rw [cond_true,decide_eq_true (by omega),cond_true]
  exact Cfd rfl h
 | false=>exact Cfd rfl h
def cc2 (l:List (List (TCT Bag))):Bool:=match l with
 | [a,b]=>decide (a.length+b.length≤60000)
 | _=>false
def ccV (l:List (List (TCT Bag))):Bxz:=match l with
 | [a,b]=>a++b
 | _=>[]
theorem Cfe {l:List (List (TCT Bag))} (h:cc2 l=true):∃ a b,l=[a,b]∧a.length+b.length≤60000:=by
 match l,h with
 | [a,b],h=>exact ⟨a,b,rfl,of_decide_eq_true h⟩
abbrev C04:PureT:=Bbe [.sl (.sl Bag)] [.sl Bag] (fun x=>cc2 x.1) (fun x=>(ccV x.1,()))
noncomputable def Cff:Ctx:=Cez 3 Tryz.prog [] [(73,Tryz.f73),(113,Tryz.f113)]
theorem Co8:CtxOk Cff:=Bp7 Bao puOk_nil (fns_cons is_Concat (fns_cons is_Grow V1))
noncomputable def C8h (x:TCTs [.sl (.sl Bag)]):Co5:=Bcx Cff 10 (.fn 73) (Bdi [.sl (.sl Bag)] x) Bbx 0 (Bgt Cff.P [.sl Bag])
theorem Cc5 (x:TCTs [.sl (.sl Bag)]):Bcx Cff 10 (.fn 73) (Bdi [.sl (.sl Bag)] x) Bbx 0 (Bgt Cff.P [.sl Bag])=C8h x:=by kernel_rfl
theorem Co9 (a b:Bxz):C8h ([a,b],())=Co6 a b:=by kernel_rfl
def Cfg (l:List (List (TCT Bag))):Co5:=match l with
 | [a,b]=>Co6 a b
 | _=>.fail
theorem Cfh (x:TCTs [.sl (.sl Bag)]) (h:cc2 x.1=true):C8h x=Cfg x.1:=by
 obtain ⟨l,⟨⟩⟩:=x
 obtain ⟨a,b,e,_⟩:=Cfe h
 have e:l=[a,b]:=e
 subst e
 exact Co9 a b
theorem Cfi:Bai Tryz.prog 73 C04:=D59 Co8 10 C8h (fun x=>Cfg x.1) Cc5 Cfh fun x h _=>by
 obtain ⟨a,b,e,hn⟩:=Cfe h
 show (Cfg x.1).sat (fun y=>y=(ccV x.1,()))
 rw [e]
 exact Co7 hn
end V
end Go.Proofs.YtcfanlgpkefogaaGreat
