/- Chapter 11: places and tables: contracts. -/
import Derived.Test.YtgchccljmjmibaaGr
namespace Go.Proofs.Ytgchccljmjmibaa
open Go.RowKit
namespace V
namespace Ev
open Go.Sort (insertionSort PermIn SortedIn SWO Below)
/-- the error of a block -/
def blkV (n : Int) (l : List (TCT cSc)) : Int := bif decide (n < 2) then 3 else bif decide (n > 16) then 3 else chkV l
/-- the table -/
def tblV (n : Int) (l : List (TCT cSc)) : Rows := bif blkV n l != 0 then [] else tbV n (cntM l)
/-- rows in order -/
def srtV (z : BAm) (d : Rows) : Rows := (insertionSort (ltV z) d.toArray 0 d.length).toList
/-- the places -/
def plcV (n : Int) (l : List (TCT cSc)) : List Int := bif blkV n l != 0 then [] else (srtV (tbV n (cntM l), n, cntM l) (tbV n (cntM l))).map fun r => (r.1 : Int)
abbrev s_Table : PureT := spec [cI, .sl cSc] [.sl cRow, cI] (fun _ => true) (fun x => (tblV x.1 x.2.1, blkV x.1 x.2.1, ()))
abbrev s_Places : PureT := spec [cI, .sl cSc] [.sl cI, cI] (fun _ => true) (fun x => (plcV x.1 x.2.1, blkV x.1 x.2.1, ()))
noncomputable def plTb : List (Nat × PureT) := (64, s_chk) :: plCo
theorem puTb : PuOk Try.prog plTb := puOk_cons is_chk.plain q_chk puCo
theorem puPl : PuOk Try.prog plPl := puOk_cons is_bLen.plain q_bl puTb
theorem spTb : ∀ p ∈ [(65, fspec probeN FL_ct FE_ct fin_ct), (74, fspec probeB FL_tb FE_tb fin_tb)], Plain Try.prog p.1 ∧ SpecOk Try.prog p.1 p.2 := fun p hp => by
  rcases List.mem_cons.1 hp with rfl | hp
  · exact ⟨is_cnt.plain, sp_cnt⟩
  · rw [List.mem_singleton] at hp
    subst hp
    exact ⟨is_etab.plain, sp_tab⟩
noncomputable def XTa : Ctx := ctxS Try.prog plTb [(38, Try.f38), (73, Try.f73), (52, Try.f52)] [] [(65, fspec probeN FL_ct FE_ct fin_ct), (74, fspec probeB FL_tb FE_tb fin_tb)]
theorem XTa_ok : CtxOk XTa := ctxS_ok mixed puTb (fns_cons is_eTable (fns_cons is_eNew (fns_cons is_eCk fns_nil))) (fun _ _ _ _ _ h => by cases h) spTb
abbrev TTa := Tree (TCTs [.sl cRow, cI])
def hdr_bl {β : Type} (n : Int) (e : Int) (K : Int → Tree β) (T : Tree β) : Tree β := bif decide (n < 2) then K 3 else bif decide (n > 16) then K 3 else bif e != 0 then (bif e != 0 then K e else .fail) else bif decide (0 ≤ n ∧ n ≤ 16) then T else .fail
def T_Ta (n : Int) (l : List (TCT cSc)) : TTa := hdr_bl n (chkV l) (fun e => .leaf ([], e, ())) (.leaf (tbV n (cntM l), 0, ()))
theorem hdr_run {β : Type} (n : Int) (l : List (TCT cSc)) (K : Int → Tree β) (T : Tree β) : hdr_bl n (chkV l) K T = bif blkV n l != 0 then K (blkV n l) else T := by
  unfold hdr_bl blkV
  cases h1 : decide (n < 2) with
  | true => rfl
  | false =>
    cases h2 : decide (n > 16) with
    | true => rfl
    | false =>
      have a := of_decide_eq_false h1
      have b := of_decide_eq_false h2
      rw [decide_eq_true (show 0 ≤ n ∧ n ≤ 16 by omega)]
      simp only [cond_false, cond_true]
      cases chkV l != 0 <;> rfl
theorem q_eTable : PureOk Try.prog 38 s_Table := q_by XTa_ok 6 (fun x => T_Ta x.1 x.2.1) (fun x => by kernel_rfl) fun x _ _ => by
  show (T_Ta x.1 x.2.1).sat (fun y => y = (tblV x.1 x.2.1, blkV x.1 x.2.1, ()))
  unfold T_Ta
  rw [hdr_run]
  unfold tblV
  cases h : blkV x.1 x.2.1 != 0 with
  | true => exact rfl
  | false =>
    have h2 : blkV x.1 x.2.1 = 0 := by simpa [bne] using h
    rw [h2]
    exact rfl
theorem XPl_ok : CtxOk XPl := ctxS_ok mixed puPl (fns_cons is_ipl (fns_cons is_eNew (fns_cons is_eCk (fns_cons is_icl (fns_cons is_isf (fns_cons is_ipdq fns_nil))))))
  (loops_cons (loops_of (ds := [lb_pl]) (by kernel_rfl) ⟨one_key (k := 11) (by kernel_rfl) rfl l_pl, trivial⟩) (loops_cons (loops_none (by kernel_rfl)) (loops_cons (loops_none (by kernel_rfl)) (loops_cons (loops_none (by kernel_rfl)) (loops_cons (loops_none (by kernel_rfl)) (loops_cons (loops_of (ds := [lb_pd]) (by kernel_rfl) ⟨one_key (k := 2) (by kernel_rfl) rfl l_d1, trivial⟩) loops_nil)))))) spTb
abbrev TPl := Tree (TCTs [.sl cI, cI])
def T3_pl (d : Rows) : TPl := bif isE (.exit 0) (iter st_pl (d.length + 1) (hd_pl d d.length [] 0)) then .leaf ((valE (E := E_pl) (.exit 0) (iter st_pl (d.length + 1) (hd_pl d d.length [] 0))).1.1, 0, ()) else .fail
def g_pl (z : BAm) (d : Rows) : GPd := hd_pd z d 0 d.length (blF (Int.toNat (IntKind.wrap .u64 (d.length : Int)))) true true
def T2_pl (z : BAm) (d : Rows) : TPl := bif decide (0 ≤ IntKind.wrap .u64 (d.length : Int) ∧ IntKind.wrap .u64 (d.length : Int) ≤ 64) then (bif isE .ret (iter st_d1 (fu_d1 (g_pl z d)) (g_pl z d)) then T3_pl (valE (E := E_d1) .ret (iter st_d1 (fu_d1 (g_pl z d)) (g_pl z d))).1.1 else .fail) else .fail
def T1_pl (z : BAm) (t : Rows) : TPl := bif !t.isEmpty then (bif appOk ([] : Rows) t 32 then T2_pl z ([] ++ t) else .fail) else .fail
def T_pl (n : Int) (l : List (TCT cSc)) : TPl := hdr_bl n (chkV l) (fun e => .leaf ([], e, ())) (T1_pl (tbV n (cntM l), n, cntM l) (tbV n (cntM l)))
theorem T_pl_eq (x : TCTs [cI, .sl cSc]) : evFn XPl 12 (.fn nPl) (encAs [cI, .sl cSc] x) noHeap 0 (outK XPl.P [.sl cI, cI]) = T_pl x.1 x.2.1 := by kernel_rfl
end Ev
end V
end Go.Proofs.Ytgchccljmjmibaa
