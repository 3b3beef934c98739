/- Chapter 11: EventTables: two with as many wins. -/
import Derived.Test.YtgchccljmjmibaaGy
namespace Go.Proofs.Ytgchccljmjmibaa
open Go.RowKit
namespace V
namespace Ev
theorem amV_count (n : Int) (m : cMp) (l : Rows) (r : Row) : amV n m l r = (l.countP (amB n m r) : Nat) := by
  unfold amV
  have key : ∀ (l : Rows) (c : Int), l.foldl (fun (c : Int) o => bif amB n m r o then c + 1 else c) c = c + (l.countP (amB n m r) : Nat) := by
    intro l
    induction l with
    | nil => intro c; simp
    | cons o l ih =>
      intro c
      rw [List.foldl_cons, ih, List.countP_cons]
      cases amB n m r o with
      | true => simp only [cond_true, if_true]; omega
      | false => simp
  rw [key]
  omega
/-- two rows alone have so many wins -/
theorem two_only (t : Rows) (w : Int) (hc : t.countP (fun r => rW r == w) = 2) (r o : Row) (hr : r ∈ t) (ho : o ∈ t) (hro : r ≠ o) (h1 : rW r = w) (h2 : rW o = w) (f : Row → Bool) (hf : ∀ x, f x = true → rW x = w) : t.countP f = (if f r then 1 else 0) + (if f o then 1 else 0) := by
  have e1 : t.countP f = (t.filter fun r => rW r == w).countP f := by
    rw [List.countP_filter]
    refine List.countP_congr fun x _ => ?_
    constructor
    · intro h; simp [h, hf x h]
    · intro h; simp only [Bool.and_eq_true] at h; exact h.1
  have hl : (t.filter fun r => rW r == w).length = 2 := by rw [← List.countP_eq_length_filter]; exact hc
  have m1 : r ∈ t.filter fun r => rW r == w := List.mem_filter.2 ⟨hr, by simp [h1]⟩
  have m2 : o ∈ t.filter fun r => rW r == w := List.mem_filter.2 ⟨ho, by simp [h2]⟩
  rw [e1]
  generalize (t.filter fun r => rW r == w) = L at hl m1 m2
  match L, hl with
  | [u, v], _ =>
    simp only [List.mem_cons, List.not_mem_nil, or_false] at m1 m2
    rw [List.countP_cons, List.countP_singleton]
    rcases m1 with rfl | rfl <;> rcases m2 with rfl | rfl
    · exact absurd rfl hro
    · omega
    · omega
    · exact absurd rfl hro
end Ev
end V
end Go.Proofs.Ytgchccljmjmibaa
