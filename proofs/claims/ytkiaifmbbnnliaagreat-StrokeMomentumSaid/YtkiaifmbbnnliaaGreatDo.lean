import Derived.Test.YtkiaifmbbnnliaaGreatDn
namespace Go.Proofs.YtkiaifmbbnnliaaGreat
open Go.RowKit
namespace V
namespace St
theorem Atf {bl : List (TCT A3)} {c : TCT Dz} {t st w fl : Int} {n : Nat} {s : S2} {r : Ae × Kns} (h : seF bl c t st w fl n s = .inl r) : r.1.length = s.1.length := by
 unfold seF at h
 cases he : (seS bl c w fl n s).2.2.1 != 0 with
 | true => rw [he] at h; cases h
 | false =>
  rw [he] at h
  cases h
  exact Acj
theorem Atg {g : TCT cGr} {s : TCT cSt} {ms : Ae} {b : Int} (hs : (g.1.1.size : Int) ≤ As .i64) (h : StaOk g s) (hm : ms.length = (A4 g).length) : Oq (gS g s ms b) = some (seF (A4 g) g.2.2.1 0 0 b 0 (A4 g).length (ms, osT s, [])) := by
 unfold Oq
 rw [show Oo (gS g s ms b) = true by
  unfold Oo
  simp only [Bool.and_eq_true, decide_eq_true_eq]
  refine ⟨G9.2 ⟨hs, hm, ?_, h.n8⟩, by show (0 : Nat) ≤ 900000; omega⟩
  show ([] ++ s.2.1 : List Bool).length = (A4 g).length
  rw [List.nil_append]; exact h.o]
 rfl
theorem Am7 {os : List Bool} {w : TCT cBw} {ms : Ae} {ks : Kns} {n : Nat} (hb : 0 ≤ w.1 ∧ w.1 < (n : Int)) (hm : ms.length = n) : (Am5 os w ms ks).sat (fun y => y = A1j (skF os w (.inl (ms, ks)))) := by
 unfold Am5 skF
 simp only
 cases decide ((ks.length : Int) > 0) with
 | false => exact rfl
 | true =>
  simp only [cond_true]
  rw [Ly hb hm, Ly hb hm, Ly hb (A9n.trans hm), Ly hb (A9n.trans hm)]
  unfold Axe
  have hl : (skM ms w).length = n := by unfold skM; rw [B0l, A9n]; exact hm
  rw [Ly hb hl, Ly hb hl]
  unfold Afh
  cases Yd (Ag (skM ms w) (Int.toNat w.1)).2.1.1 with
  | true => exact rfl
  | false => cases Yd (Ag (skM ms w) (Int.toNat w.1)).2.1.2.1 <;> exact rfl
theorem Am8 {g : TCT cGr} {s : TCT cSt} {w : TCT cBw} (hs : (g.1.1.size : Int) ≤ As .i64) (h : StaOk g s) (hb : BwOk ((A4 g).length : Int) w) : (Am6 Oq g s w).sat (fun y => y = A1j (skG g s w)) := by
 have tw := Am3 hb.f hb.z hb.p
 have he : (twE w != 0) = false := bne_eq_false_iff_eq.2 tw.1
 unfold Am6 skG
 rw [he]
 simp only [cond_false]
 have hms : ([] ++ s.1 : Ae).length = (A4 g).length := by rw [List.nil_append]; exact h.m
 have hin : 0 ≤ w.1 ∧ w.1 < (([] ++ s.1 : Ae).length : Int) := ⟨hb.b.1, by rw [hms]; exact hb.b.2⟩
 cases w.2.2.2.1 == 4 with
 | true => simp only [cond_true]; rw [Ef hin, Ly hb.b hms]; exact rfl
 | false =>
  simp only [cond_false]
  rw [Ef hin, Ly hb.b hms]
  have hy := Atg (b := w.1) hs h (A5e (b := w.1) (v := twP w).trans hms)
  have e : Ov ([] ++ s.1) w.1 (twP w) = Ov (msT s) w.1 (twP w) := rfl
  rw [e] at hy ⊢
  cases hf : seF (A4 g) g.2.2.1 0 0 w.1 0 (A4 g).length (Ov (msT s) w.1 (twP w), osT s, []) with
  | inr x => rw [hf] at hy; rw [Zm hy, show (x != 0) = true from bne_iff_ne.2 (A9k hf)]; exact rfl
  | inl r =>
   rw [hf] at hy
   rw [Zl hy]
   obtain ⟨ms, ks⟩ := r
   have hl := Atf hf
   exact Am7 hb.b (hl.trans (A5e.trans h.m))
theorem Ath {g : TCT cGr} {s : TCT cSt} {w : TCT cBw} (hs : (g.1.1.size : Int) ≤ As .i64) : (Atc Oq g s w).sat (fun y => y = A1j (skV g s w)) := by
 unfold Atc skV
 rw [C5 hs, C5 hs, B0k]
 cases h1 : Dy g s != 0 with
 | true => exact rfl
 | false =>
  have h := A1l (bne_eq_false_iff_eq.1 h1)
  have hn1 := h.n1
  have hn8 := h.n8
  have hm := h.m
  have ho := h.o
  simp only [cond_false]
  cases h2 : bwB ((A4 g).length : Int) w with
  | true => exact rfl
  | false =>
   have hb := Am4 h2
   simp only [cond_false]
   cases Gn s with
   | false => exact rfl
   | true =>
    simp only [Bool.not_true, cond_false, Bool.false_or]
    rw [Ef ⟨hb.b.1, by rw [ho]; exact hb.b.2⟩]
    cases Aq (osT s) (Int.toNat w.1) (Ao .b) with
    | true => exact rfl
    | false =>
     simp only [cond_false]
     rw [A1k (by omega), Ot (by omega) (by decide), A1k (by omega), Ot (by omega) (by decide)]
     exact Am8 hs h hb
theorem Afj : A7 Tryz.prog 16 Afi := B2 Ate 8 (fun x => Atc Oq x.1 x.2.1 x.2.2.1) (Atd Oq) fun _ hok _ => Ath (of_decide_eq_true hok)
end St
end V
end Go.Proofs.YtkiaifmbbnnliaaGreat
