/- The law TurfParts: plain part, and its walk by the evaluator. For all a, b and d: the law returns true. -/
import Derived.Test.YthgmpjljlpacgaaTa
namespace Go.Proofs.Ythgmpjljlpacgaa
open Go.RowKit Ev

def t_parts (x y n s : Int) : Tree Unit :=
  bif IntKind.i64.wrap (IntKind.i64.wrap (DvE x n + DvE y n) + DvE s n) != 0 then .fail
  else bif IntKind.i64.wrap (IntKind.i64.wrap (DvW x n * n) + DvR x n) != x then .fail
  else bif decide (IntKind.i64.wrap (2 * DvR x n) < IntKind.i64.wrap (0 - n)) then .fail
  else bif decide (IntKind.i64.wrap (2 * DvR x n) ≥ n) then .fail
  else bif IntKind.i64.wrap (IntKind.i64.wrap (IntKind.i64.wrap (DvW s n - DvW x n) - DvW y n) * n) == IntKind.i64.wrap (IntKind.i64.wrap (DvR x n + DvR y n) - DvR s n) then .leaf ()
  else .fail

theorem parts_law (x y n : Int) (hx1 : -1099511627776 ≤ x) (hx2 : x ≤ 1099511627776) (hy1 : -1099511627776 ≤ y) (hy2 : y ≤ 1099511627776) (hn1 : 1 ≤ n) (hn2 : n ≤ 4294967296) : (t_parts x y n (x + y)).sat (fun _ => True) := by
  obtain ⟨ex, rx, e1⟩ := dv_ok x n (by omega) (by omega) hn1 (by omega)
  obtain ⟨ey, ry, e2⟩ := dv_ok y n (by omega) (by omega) hn1 (by omega)
  obtain ⟨es, rs, e3⟩ := dv_ok (x + y) n (by omega) (by omega) hn1 (by omega)
  unfold t_parts
  rw [ex, rx, e1, ry, e2, es, rs, e3, ey]
  obtain ⟨a1, a2, a3⟩ := dw_spec x n hn1
  obtain ⟨b1, b2, b3⟩ := dw_spec y n hn1
  obtain ⟨c1, c2, c3⟩ := dw_spec (x + y) n hn1
  have hw := dw_bd x n 1099511627776 hn1 (by omega) hx1 hx2
  have hw2 := dw_bd y n 1099511627776 hn1 (by omega) hy1 hy2
  have hw3 := dw_bd (x + y) n 2199023255552 hn1 (by omega) (by omega) (by omega)
  have hp : DW x n * n = x - DR x n := by omega
  have hq : (DW (x + y) n - DW x n - DW y n) * n = DR x n + DR y n - DR (x + y) n := by
    have : (DW (x + y) n - DW x n - DW y n) * n = DW (x + y) n * n - DW x n * n - DW y n * n := by grind
    omega
  rw [wrap_id (n := 0 + 0) (by omega) (by omega)]
  rw [wrap_id (n := 0 + 0 + 0) (by omega) (by omega), hp, wrap_id (n := x - DR x n) (by omega) (by omega), wrap_id (n := x - DR x n + DR x n) (by omega) (by omega), wrap_id (n := 2 * DR x n) (by omega) (by omega), wrap_id (n := 0 - n) (by omega) (by omega),
    wrap_id (n := DW (x + y) n - DW x n) (by omega) (by omega), wrap_id (n := DW (x + y) n - DW x n - DW y n) (by omega) (by omega), hq, wrap_id (n := DR x n + DR y n - DR (x + y) n) (by omega) (by omega), wrap_id (n := DR x n + DR y n) (by omega) (by omega), wrap_id (n := DR x n + DR y n - DR (x + y) n) (by omega) (by omega)]
  refine sat_cond (fun h => ?_) (fun _ => sat_cond (fun h => ?_) (fun _ => sat_cond (fun h => ?_) (fun _ => sat_cond (fun h => ?_) (fun _ => sat_cond (fun _ => trivial) (fun h => ?_)))))
  · simp at h
  · simp at h
  · have := of_decide_eq_true h; omega
  · have := of_decide_eq_true h; omega
  · simp at h

theorem is_TurfParts : FnIs Try.prog (3, Try.f3) := ⟨Try.func3, by kernel_rfl, by kernel_rfl⟩
theorem pu_parts : PuOk Try.prog [(13, g_Divide), (14, g_fine)] := puOk_cons is_Divide.plain p_Divide (puOk_cons is_fine.plain p_fine puOk_nil)

theorem parts_walk (a b d : Int) (wa : inK .i64 a) (wb : inK .i64 b) (wd : inK .u32 d) (w : World) :
    Calls Try.prog 3 #[.int .i64 a, .int .i64 b, .int .u32 d] w fun e w' => e = .returned (.bool true) ∧ Below w.heap.size w w' := by
  have hd : 0 ≤ d ∧ d ≤ 4294967295 := wd
  have e : evFn (ctx Try.prog [(13, g_Divide), (14, g_fine)] [(3, Try.f3)]) 2 3 [.int .i64 a, .int .i64 b, .int .u32 d] noHeap 0 lawK =
      t_parts (a.tmod 1099511627776) (b.tmod 1099511627776) (IntKind.i64.wrap (1 + IntKind.i64.wrap d)) (IntKind.i64.wrap (a.tmod 1099511627776 + b.tmod 1099511627776)) := by kernel_rfl
  refine law_calls (us := [.int .i64 a, .int .i64 b, .int .u32 d]) (xs := [.int .i64 a, .int .i64 b, .int .u32 d]) (ctx_ok mixed pu_parts (fns_cons is_TurfParts fns_nil)) 2 ?_ ?_
  · simp only [RepL, Rep]; exact ⟨_, _, rfl, ⟨rfl, wa⟩, _, _, rfl, ⟨rfl, wb⟩, _, _, rfl, ⟨rfl, wd⟩, rfl⟩
  · have k1 := tm_bd a 1099511627776 (by omega)
    have k2 := tm_bd b 1099511627776 (by omega)
    rw [e, wrap_id (n := d) (by omega) (by omega), wrap_id (n := 1 + d) (by omega) (by omega), wrap_id (n := a.tmod 1099511627776 + b.tmod 1099511627776) (by omega) (by omega)]
    exact parts_law _ _ _ (by omega) (by omega) (by omega) (by omega) (by omega) (by omega)
end Go.Proofs.Ythgmpjljlpacgaa
