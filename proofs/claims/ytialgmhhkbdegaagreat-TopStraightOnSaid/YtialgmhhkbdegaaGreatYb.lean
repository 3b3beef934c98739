/- The examples of the layers up to 7 and 9 hold. -/
import Derived.Test.YtialgmhhkbdegaaGreatYa
namespace Go.Proofs.YtialgmhhkbdegaaGreat
open Go.RowKit
namespace V
abbrev cArt : TC := .st [cI, .sl .s, .sl .s, .s]
abbrev cBook : TC := .st [.s, cI, .sl cArt]
theorem is_laws : FnIs Tryz.prog (32, Tryz.f32) := ⟨Tryz.func32, by kernel_rfl, by kernel_rfl⟩
noncomputable def plA3 : List (Nat × PureT) := (32, auto (ctxU 20 Tryz.prog [] allT) 40 32 [] [cBook]) :: (34, s_works) :: plA2
theorem puA3 : PuOk Tryz.prog plA3 := puOk_cons is_laws.plain (auto_ok (ctxU_ok mixed puOk_nil allT_ok) _ _ _ _) (puOk_cons is_works05.plain q_works05 puA2 (panOk_none rfl)) (panOk_none rfl)
set_option maxRecDepth 100000 in
theorem q_works07 : PureOk Tryz.prog 18 s_works := q_leaf (ctxU_ok (u := 20) mixed puA3 allT_ok) 60 (fun _ => by kernel_rfl)
noncomputable def plA4 : List (Nat × PureT) := (18, s_works) :: plA3
theorem puA4 : PuOk Tryz.prog plA4 := puOk_cons is_works07.plain q_works07 puA3 (panOk_none rfl)
theorem q_works09 : PureOk Tryz.prog 8 s_works := q_leaf (ctxU_ok (u := 20) mixed puA4 allT_ok) 60 (fun _ => by kernel_rfl)
end V
end Go.Proofs.YtialgmhhkbdegaaGreat
