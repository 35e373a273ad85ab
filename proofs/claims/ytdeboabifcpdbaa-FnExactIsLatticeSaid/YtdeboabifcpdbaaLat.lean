/-
  Contracts of the lattice functions.
-/
import Derived.Test.YtdeboabifcpdbaaNum
import Derived.Deep.Light
namespace Go.Proofs.Ytdeboabifcpdbaa
open Go.RowKit
theorem bcell {W w1 : World} (hb : Below W.heap.size W w1) : (∀ b o, b < W.heap.size → w1.cell? ⟨b, o, none⟩ = W.cell? ⟨b, o, none⟩) ∧ (∀ b o, b < W.heap.size → w1.frozen? ⟨b, o, none⟩ = W.frozen? ⟨b, o, none⟩) :=
  ⟨fun b o h => hb.cell (p := ⟨b, o, none⟩) h, fun b o h => hb.frozen (p := ⟨b, o, none⟩) h⟩
theorem below_drewN {B : Nat} {a w : World} (h : Below B a w) (n : Nat) : Below B a (w.drewN n) := ⟨h.os, h.tape, h.output, h.size, h.block⟩
theorem toLattice_any (a b d : Int) (w : World) :
    Calls Try.prog 16 #[.agg #[.int .i64 a, .int .i64 b, .int .i64 d]] w fun e w' => e = .returned (.agg #[.int .i64 a, .int .i64 b, .int .i64 d]) ∧ Below w.heap.size w w' := by
  go_enter Try.func16, Try.ntmps16
  go_wp2
  refine bodyPost_ret (v := .agg #[.int .i64 a, .int .i64 b, .int .i64 d]) (by simp [results, Try.results16, go_sem]) rfl ⟨rfl, ?_⟩
  repeat (first | exact Below.refl _ _ | exact (Below.refl _ _).mono (by simp; omega) | (refine Below.alloc ?_ (by simp; try omega) _))
def latB (a b d : Int) : Bool := decide (1 ≤ a ∧ a ≤ 1000 ∧ 1 ≤ d ∧ d ≤ 1000 ∧ 0 ≤ b ∧ b < a)
theorem latB_true {a b d : Int} (h : latB a b d = true) : 1 ≤ a ∧ a ≤ 1000 ∧ 1 ≤ d ∧ d ≤ 1000 ∧ 0 ≤ b ∧ b < a := of_decide_eq_true h
theorem isLattice_any (a b d : Int) (w : World) :
    Calls Try.prog 55 #[.agg #[.int .i64 a, .int .i64 b, .int .i64 d]] w fun e w' => e = .returned (.bool (latB a b d)) ∧ Below w.heap.size w w' := by
  go_enter Try.func55, Try.ntmps55
  go_wp2
  all_goals
    go_ret
    refine ⟨ret_bool ?_, (Below.refl _ _).alloc (Nat.le_refl _) _⟩
    (try unfold latB)
    (first | (symm; apply decide_eq_true; omega) | (symm; apply decide_eq_false; omega) | (rw [decide_eq_decide]; omega))
def inB (n lo hi : Int) : Bool := decide (lo ≤ n ∧ n ≤ hi)
theorem l1In_any (n lo hi : Int) (w : World) :
    Calls Try.prog 70 #[.int .i64 n, .int .i64 lo, .int .i64 hi] w fun e w' => e = .returned (.bool (inB n lo hi)) ∧ w = w' := by
  go_enter Try.func70, Try.ntmps70
  go_wp2
  all_goals
    go_ret
    refine ⟨ret_bool ?_, rfl⟩
    (try unfold inB)
    (first | (symm; apply decide_eq_true; omega) | (symm; apply decide_eq_false; omega) | (rw [decide_eq_decide]; omega))
theorem laGood_any (a b d : Int) (w : World) (ha : I64 a) :
    Calls Try.prog 54 #[.agg #[.int .i64 a, .int .i64 b, .int .i64 d]] w fun e w' => e = .returned (.bool (latB a b d)) ∧ Below w.heap.size w w' := by
  have hw1 : 1 ≤ a → wrap64 (a - 1) = a - 1 := fun _ => by have := ha.2; unfold wrap64; omega
  have HW := Lib.hid hw1
  clear hw1
  go_enter Try.func54, Try.ntmps54
  go_wp2_with (go_at_call 70; refine (l1In_any _ _ _ _).mono ?_; rintro e w' ⟨rfl, rfl⟩)
  all_goals
    go_ret
    refine ⟨ret_bool ?_, (Below.refl _ _).alloc (Nat.le_refl _) _⟩
    go_light
    have HW := HW.out
    simp_all [inB, latB]
    all_goals (first | omega | (intros; omega) | (rw [Bool.eq_iff_iff]; simp; omega))
theorem specIsLattice_any (a b d : Int) (w : World) (ha : I64 a) :
    Calls Try.prog 15 #[.agg #[.int .i64 a, .int .i64 b, .int .i64 d]] w fun e w' => e = .returned (.bool (latB a b d)) ∧ Below w.heap.size w w' := by
  go_enter Try.func15, Try.ntmps15
  go_wp2_with (go_at_call 54; refine (laGood_any _ _ _ _ ha).mono ?_; rintro e w' ⟨rfl, hb⟩; obtain ⟨hc, hf⟩ := bcell hb; have hs := hb.size; (try simp only [World.size_alloc, World.size_setCell, World.size_drew, World.heap_drewN] at hs); (try have hs0 : w.heap.size < w'.heap.size := by omega); (try have hs1 : w.heap.size + 1 < w'.heap.size := by omega); (try have hs2 : w.heap.size + 2 < w'.heap.size := by omega))
  go_ret
  refine ⟨rfl, ?_⟩
  repeat (first | exact Below.refl _ _ | assumption | (refine Below.alloc ?_ (by (try simp only [World.size_alloc, World.size_setCell, World.size_drew, World.heap_drewN]); omega) _) | (refine Below.drew ?_) | (refine below_drewN ?_ _) | (refine Below.setCell ?_ (by (try simp only [World.size_alloc, World.size_setCell, World.size_drew, World.heap_drewN]); omega) _) | (refine Below.trans ?_ (Below.mono (by assumption) (by (try simp only [World.size_alloc, World.size_setCell, World.size_drew, World.heap_drewN]); omega))))
theorem implIsLattice_any (a b d : Int) (w : World) :
    Calls Try.prog 17 #[.agg #[.int .i64 a, .int .i64 b, .int .i64 d]] w fun e w' => e = .returned (.bool (latB a b d)) ∧ Below w.heap.size w w' := by
  go_enter Try.func17, Try.ntmps17
  go_wp2_with (go_at_call 55; refine (isLattice_any _ _ _ _).mono ?_; rintro e w' ⟨rfl, hb⟩; obtain ⟨hc, hf⟩ := bcell hb; have hs := hb.size; (try simp only [World.size_alloc, World.size_setCell, World.size_drew, World.heap_drewN] at hs); (try have hs0 : w.heap.size < w'.heap.size := by omega); (try have hs1 : w.heap.size + 1 < w'.heap.size := by omega); (try have hs2 : w.heap.size + 2 < w'.heap.size := by omega))
  go_ret
  refine ⟨rfl, ?_⟩
  repeat (first | exact Below.refl _ _ | assumption | (refine Below.alloc ?_ (by (try simp only [World.size_alloc, World.size_setCell, World.size_drew, World.heap_drewN]); omega) _) | (refine Below.drew ?_) | (refine below_drewN ?_ _) | (refine Below.setCell ?_ (by (try simp only [World.size_alloc, World.size_setCell, World.size_drew, World.heap_drewN]); omega) _) | (refine Below.trans ?_ (Below.mono (by assumption) (by (try simp only [World.size_alloc, World.size_setCell, World.size_drew, World.heap_drewN]); omega))))
set_option maxHeartbeats 400000 in
theorem law_isLattice (a b d : Int) (w : World) (ha : I64 a) (_hb : I64 b) (_hd : I64 d) :
    Calls Try.prog 3 #[.agg #[.int .i64 a, .int .i64 b, .int .i64 d]] w fun e w' => e = .returned (.bool true) ∧ Below w.heap.size w w' := by
  go_enter Try.func3, Try.ntmps3
  go_wp2_with (first | (go_at_call 16; refine (toLattice_any _ _ _ _).mono ?_; rintro e w' ⟨rfl, hb⟩; obtain ⟨hc, hf⟩ := bcell hb; have hs := hb.size; (try simp only [World.size_alloc, World.size_setCell, World.size_drew, World.heap_drewN] at hs); (try have hs0 : w.heap.size < w'.heap.size := by omega); (try have hs1 : w.heap.size + 1 < w'.heap.size := by omega); (try have hs2 : w.heap.size + 2 < w'.heap.size := by omega)) | (go_at_call 15; refine (specIsLattice_any _ _ _ _ ha).mono ?_; rintro e w' ⟨rfl, hb⟩; obtain ⟨hc, hf⟩ := bcell hb; have hs := hb.size; (try simp only [World.size_alloc, World.size_setCell, World.size_drew, World.heap_drewN] at hs); (try have hs0 : w.heap.size < w'.heap.size := by omega); (try have hs1 : w.heap.size + 1 < w'.heap.size := by omega); (try have hs2 : w.heap.size + 2 < w'.heap.size := by omega)) | (go_at_call 17; refine (implIsLattice_any _ _ _ _).mono ?_; rintro e w' ⟨rfl, hb⟩; obtain ⟨hc, hf⟩ := bcell hb; have hs := hb.size; (try simp only [World.size_alloc, World.size_setCell, World.size_drew, World.heap_drewN] at hs); (try have hs0 : w.heap.size < w'.heap.size := by omega); (try have hs1 : w.heap.size + 1 < w'.heap.size := by omega); (try have hs2 : w.heap.size + 2 < w'.heap.size := by omega)))

  go_ret
  refine ⟨rfl, ?_⟩
  repeat (first | exact Below.refl _ _ | assumption | (refine Below.alloc ?_ (by (try simp only [World.size_alloc, World.size_setCell, World.size_drew, World.heap_drewN]); omega) _) | (refine Below.drew ?_) | (refine below_drewN ?_ _) | (refine Below.setCell ?_ (by (try simp only [World.size_alloc, World.size_setCell, World.size_drew, World.heap_drewN]); omega) _) | (refine Below.trans ?_ (Below.mono (by assumption) (by (try simp only [World.size_alloc, World.size_setCell, World.size_drew, World.heap_drewN]); omega))))
end Go.Proofs.Ytdeboabifcpdbaa
