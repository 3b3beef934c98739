/- Acts: its contract. -/
import Derived.Test.YtialgmhhkbdegaaGreatJi
namespace Go.Proofs.YtialgmhhkbdegaaGreat
open Go.RowKit
namespace V
abbrev kS4 : List SK := [.d cI, .d cI, .d (.sl cI), .d cI, .d cI, .d cI, .d cI, .d cI, .d cI, .d cI, .d cI, .d cI, .d cI, .d cI, .d cI, .q 4]
def bs_ac : List BK := [(2, 39, [.d cI]), (4, 0, [.m cP cC]), (5, 82, kS4), (6, 60, [.p 5 0 0 0]), (7, 66, kP), (8, 45, [.o 52 cA])]
structure Cac where
  e : SKTs [SK.d cI]
  m : Memo
  x : SKTs kS
  q : SKTs kP
abbrev Sac : Type := List (TCT cA)
def bsFac (c : Cac) (s : Sac) : BTs bs_ac := (c.e, (c.m, ()), c.x, ((), ()), c.q, (s, ()), ())
def cOfac (t : BTs bs_ac) : Cac := ⟨t.1, t.2.1.1, t.2.2.1, t.2.2.2.2.1⟩
def sOfac (t : BTs bs_ac) : Sac := t.2.2.2.2.2.1.1
def row_ac {α : Type} (c : Cac) (s : Sac) (a : TCT cA) (K : Sac ⊕ Unit → Tree α) : Tree α := bif appOk s [a] 32 then K (.inl (s ++ [a])) else .fail
/-- what the consumer does with an act -/
def g_ac (c : Cac) (s : Sac) (a : TCT cA) : Option (Sac ⊕ Unit) := bif appOk s [a] 32 then some (.inl (s ++ [a])) else none
theorem row_ac_ok {α : Type} {c : Cac} {s : Sac} {a : TCT cA} {K : Sac ⊕ Unit → Tree α} {Q : α → Prop} {y : Sac ⊕ Unit} (h : g_ac c s a = some y) (hQ : (K y).sat Q) : (row_ac c s a K).sat Q := by
  unfold g_ac at h
  unfold row_ac
  cases ho : appOk s [a] 32 with
  | false => rw [ho] at h; cases h
  | true => rw [ho] at h; cases h; exact hQ
theorem g_ac_in (c : Cac) (s : Sac) (a : TCT cA) (b : Unit) : g_ac c s a ≠ some (.inr b) := by
  unfold g_ac
  cases appOk s [a] 32 <;> exact fun h => nomatch h
def all_ac (c : Cac) (l : List (TCT cA)) (s : Sac) : Option (Sac ⊕ Unit) := foldX (g_ac c) l s
/-! the loop over balls -/
/-! Acts -/
def c_Ac (b : TCT cB) (x : TCT cSc) : Cac := ⟨(0, ()), no0, cellsB b, cellsP (placeF x)⟩
def al_Ac (b : TCT cB) (x : TCT cSc) : Option (List (TCT cA) ⊕ Unit) := all_ac (c_Ac b x) (rowsA b (cellsP (placeF x)) (placeF x).2.2.1) [runA]
abbrev cAs : TC := .sl cA
abbrev TAc := Tree (TCTs [cAs, cI])
theorem flat_len {α β : Type} {f : β → List α} {M : Nat} : ∀ (l : List β), (∀ x ∈ l, (f x).length ≤ M) → (l.flatMap f).length ≤ l.length * M
  | [], _ => by simp
  | x :: l, h => by
    rw [List.flatMap_cons, List.length_append, List.length_cons, Nat.add_mul, Nat.one_mul]
    have h1 := h x (List.mem_cons_self ..)
    have h2 := flat_len l fun y hy => h y (List.mem_cons_of_mem _ hy)
    omega
theorem rows_len {b : TCT cB} (hb : OkB b) {q : SKTs kP} {n : Int} (hn : n ≤ 2) : (rowsA b q n).length ≤ 200 := by
  obtain ⟨_, h1, h2⟩ := sq_eq hb
  have k := flat_len (f := fun i => rowA b q i) (M := 81) (List.range n.toNat) fun i _ => by
    unfold rowA
    cases deadI q i with
    | true => exact Nat.zero_le _
    | false =>
      show (roqs b i (sq b)).length ≤ 81
      unfold roqs
      rw [List.length_map, List.length_range]
      omega
  rw [List.length_range] at k
  unfold rowsA
  have : n.toNat * 81 ≤ 2 * 81 := Nat.mul_le_mul_right _ (by omega)
  omega
theorem all_ac_eq (c : Cac) : ∀ (l s : List (TCT cA)), s.length + l.length ≤ 100000 → all_ac c l s = some (.inl (s ++ l))
  | [], s, _ => by rw [List.append_nil]; rfl
  | x :: l, s, h => by
    rw [List.length_cons] at h
    have ih := all_ac_eq c l (s ++ [x]) (by rw [List.length_append, List.length_singleton]; omega)
    unfold all_ac at ih ⊢
    have ha : appOk s [x] 32 = true := by
      rw [appOk_eq]
      exact decide_eq_true (by rw [List.length_singleton]; omega)
    simp only [foldX, g_ac, ha, cond_true]
    rw [ih, List.append_assoc]
    rfl
def actsV (b : TCT cB) (x : TCT cSc) : List (TCT cA) := bif bOk b && placeOk b x then actsF b (placeF x) else []
abbrev s_Acts : PureT := spec [cB, cSc] [cAs, cI] (fun _ => true) (fun x => (actsV x.1 x.2.1, sceneE x.1 x.2.1, ()))
end V
end Go.Proofs.YtialgmhhkbdegaaGreat
