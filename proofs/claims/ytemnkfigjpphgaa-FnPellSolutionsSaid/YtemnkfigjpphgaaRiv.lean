/-
  Blocks of the call's own, known whole.
-/
import Derived.Test.YtemnkfigjpphgaaTail
import Derived.Test.YtemnkfigjpphgaaEnd
namespace Go.Proofs.Ytemnkfigjpphgaa
open Go.RowKit
/-- A block that holds just these cells. -/
def Blk (b : Nat) (T : TypeId) (cs : Array Value) (w : World) : Prop := w.heap[b]? = some (.cells cs T (0, 0))
section
variable {b : Nat} {T : TypeId} {cs : Array Value} {w w' : World}
theorem Blk.lt (h : Blk b T cs w) : b < w.heap.size := by
  rcases Nat.lt_or_ge b w.heap.size with h1 | h1
  · exact h1
  · unfold Blk at h
    rw [Array.getElem?_eq_none h1] at h; cases h
theorem Blk.lower {B : Nat} (h : Blk b T cs w) (hb : Below B w w') (hB : b < B) : Blk b T cs w' := (hb.block b hB).trans h
theorem Blk.below (h : Blk b T cs w) (hb : Below w.heap.size w w') : Blk b T cs w' := h.lower hb h.lt
theorem Blk.grown {r : Option Nat} (h : Blk b T cs w) (hg : w.grownBy w' r) (hb : some b ≠ r) : Blk b T cs w' := (hg.block b h.lt hb).trans h
theorem Blk.new (w : World) (T : TypeId) (cs : Array Value) : Blk w.heap.size T cs (w.alloc (.cells cs T)) := heap_alloc_new _ _
theorem Blk.alloc (h : Blk b T cs w) (o : Obj) : Blk b T cs (w.alloc o) := by
  unfold Blk
  rw [heap_alloc_old _ _ h.lt]
  exact h
theorem Blk.cell (h : Blk b T cs w) (o : Nat) : w.cell? ⟨b, o, none⟩ = cs[o]? := cell_of_row w b o cs T (0, 0) h
theorem Blk.froz (h : Blk b T cs w) (o : Nat) : w.frozen? ⟨b, o, none⟩ = false := by
  unfold Blk at h
  simp [World.frozen?, h]
theorem Blk.far {c o : Nat} {v : Value} (h : Blk b T cs w) (hb : b ≠ c) : Blk b T cs (w.setCell ⟨c, o, none⟩ v) := by
  unfold Blk at h ⊢
  rw [← h]
  simp [World.setCell, Array.getElem?_modify, Ne.symm hb]
theorem Blk.set1 (h : Blk b T cs w) (i : Nat) (v : Value) : Blk b T (cs.setIfInBounds i v) (w.setCell ⟨b, i, none⟩ v) := by
  unfold Blk at h ⊢
  simp [World.setCell, Array.getElem?_modify, h]
theorem grown_set1 (w : World) (b i : Nat) (v : Value) : w.grownBy (w.setCell ⟨b, i, none⟩ v) (some b) := by
  refine ⟨rfl, rfl, rfl, by simp, fun k hk hne => ?_⟩
  have : b ≠ k := fun e => hne (by rw [e])
  simp [World.setCell, Array.getElem?_modify, this]
theorem Blk.set2 {x y : Value} (h : Blk b T #[x, y] w) (x' y' : Value) :
    ∃ w4, (w.setCell ⟨b, 0, none⟩ x').setCell ⟨b, 1, none⟩ y' = w4 ∧ Blk b T #[x', y'] w4 ∧ w4.heap.size = w.heap.size ∧ w.grownBy w4 (some b) :=
  ⟨_, rfl, ((h.set1 0 x').set1 1 y'), by simp, ((grown_set1 w b 0 x').trans (grown_set1 _ b 1 y'))⟩
theorem Blk.set3 {x y z : Value} (h : Blk b T #[x, y, z] w) (x' y' z' : Value) :
    ∃ w4, ((w.setCell ⟨b, 0, none⟩ x').setCell ⟨b, 1, none⟩ y').setCell ⟨b, 2, none⟩ z' = w4 ∧ Blk b T #[x', y', z'] w4 ∧ w4.heap.size = w.heap.size ∧ w.grownBy w4 (some b) :=
  ⟨_, rfl, (((h.set1 0 x').set1 1 y').set1 2 z'), by simp, ((grown_set1 w b 0 x').trans (grown_set1 _ b 1 y')).trans (grown_set1 _ b 2 z')⟩
theorem Blk.set4 {x y z u : Value} (h : Blk b T #[x, y, z, u] w) (x' y' z' u' : Value) :
    ∃ w4, (((w.setCell ⟨b, 0, none⟩ x').setCell ⟨b, 1, none⟩ y').setCell ⟨b, 2, none⟩ z').setCell ⟨b, 3, none⟩ u' = w4 ∧ Blk b T #[x', y', z', u'] w4 ∧ w4.heap.size = w.heap.size ∧ w.grownBy w4 (some b) :=
  ⟨_, rfl, ((((h.set1 0 x').set1 1 y').set1 2 z').set1 3 u'), by simp, (((grown_set1 w b 0 x').trans (grown_set1 _ b 1 y')).trans (grown_set1 _ b 2 z')).trans (grown_set1 _ b 3 u')⟩
end
/-- What a call leaves of blocks below B, when a block of one's own is written. -/
theorem below_grown {B b : Nat} {w w1 w2 : World} (h : Below B w w1) (hg : w1.grownBy w2 (some b)) (hb : B ≤ b) (hB : B ≤ w1.heap.size) : Below B w w2 :=
  ⟨hg.os.trans h.os, hg.tape.trans h.tape, hg.output.trans h.output, Nat.le_trans h.size hg.size, fun k hk => (hg.block k (by omega) (fun e => by cases e; omega)).trans (h.block k hk)⟩
end Go.Proofs.Ytemnkfigjpphgaa

/-
  The program's least solution.
-/
namespace Go.Proofs.Ytemnkfigjpphgaa
open Go.RowKit
attribute [local simp, local go_sem] past_cell past_frozen past_tape
def SolS (d s t u : Int) : Prop := 0 < t ∧ 0 < u ∧ t * t = d * u * u + s
def LsR (d s m t u : Int) (ok : Bool) : Prop := (SolS d s t u ∧ u ≤ m ∧ (∀ t' u', SolS d s t' u' → u ≤ u') ∧ ok = smallB t u) ∨ (t = 0 ∧ u = 0 ∧ ok = false ∧ ∀ t' u', SolS d s t' u' → m < u')
set_option maxRecDepth 100000 in
set_option maxHeartbeats 8000000 in
theorem leastSolution_any (d s m : Int) (w : World) (hd : 5 ≤ d ∧ d ≤ 1000) (hs : s = 4 ∨ s = -4) (hm : 0 ≤ m ∧ m ≤ 1000000) :
    Calls Try.prog 54 #[.int .i64 d, .int .i64 s, .int .i64 m] w fun e w' => (∃ t u ok, e = .returned (.tuple #[.agg #[.int .i64 t, .int .i64 u], .bool ok]) ∧ LsR d s m t u ok) ∧ Below w.heap.size w w' := by
  obtain ⟨d1, d2⟩ := hd
  obtain ⟨m1, m2⟩ := hm
  go_enter Try.func54, Try.ntmps54
  go_wp2_with fail
  go_loopw [8] (fun uv wr => ∃ u : Int, uv = .int .i64 u ∧ 1 ≤ u ∧ u ≤ m + 1 ∧ Hid (∀ t' u', SolS d s t' u' → u ≤ u') ∧ Hid (Blk w.heap.size 27 #[.int .i64 0, .int .i64 0] wr) ∧ Hid (Below w.heap.size w wr)) (fun uv _ => (m + 1 - intOf uv).toNat)
  case atStart =>
    exact ⟨1, rfl, by omega, by omega, Lib.hid fun t' u' h => by have := h.2.1; omega, Lib.hid (Blk.new _ _ _), Lib.hid (by repeat (first | with_reducible exact Below.refl _ _ | with_reducible assumption | ((with_reducible refine blA ?_ ?_); (focus (first | omega | (simp <;> omega)))) | (with_reducible refine blD ?_) | (with_reducible refine blN ?_) | ((with_reducible refine blS ?_ ?_); (focus (first | omega | (simp <;> omega)))) | ((with_reducible refine blT (by assumption) ?_ ?_); (focus (first | omega | (simp <;> omega))))))⟩
  case round =>
    obtain ⟨u, rfl, u1, u2, hL, hK, hBl⟩ := hrel
    have ck := hK.out.cell
    have lk := hK.out.lt
    by_cases hle : u ≤ m
    · obtain ⟨k1, k2⟩ := mul_bd (show Bd 1000 d from ⟨by omega, by omega⟩) (show Bd 1000000 u from ⟨by omega, by omega⟩) (show (1000 : Int) * 1000000 ≤ 1000000000 by decide)
      obtain ⟨k3, k4⟩ := mul_bd (show Bd 1000000000 (d * u) from ⟨k1, k2⟩) (show Bd 1000000 u from ⟨by omega, by omega⟩) (show (1000000000 : Int) * 1000000 ≤ 1000000000000000 by decide)
      have k5 : 5 ≤ d * u := by have := Int.mul_le_mul d1 u1 (by omega) (by omega); omega
      have k6 : 5 ≤ d * u * u := by have := Int.mul_le_mul k5 u1 (by omega) (by omega); omega
      have hk1 : wrap64 (d * u) = d * u := by unfold wrap64; omega
      have hk2 : wrap64 (d * u * u) = d * u * u := by unfold wrap64; omega
      obtain ⟨q, hq⟩ : ∃ q, d * u * u + s = q := ⟨_, rfl⟩
      have q1 : 1 ≤ q ∧ q ≤ 1000000000000004 := by rcases hs with rfl | rfl <;> omega
      have hk3 : wrap64 (d * u * u + s) = q := by rw [hq]; unfold wrap64; omega
      have hk4 : wrap64 q = q := by unfold wrap64; omega
      have hku : wrap64 (u + 1) = u + 1 := by unfold wrap64; omega
      have HQ := Lib.hid hq
      obtain ⟨n, hn⟩ : ∃ n : Nat, (n : Int) = q := ⟨q.toNat, by omega⟩
      have hsq : Hid (∀ w1, Calls Try.prog 105 #[.float .f64 (floatOfInt .f64 q)] w1 fun e w' => (∃ r z, e = .returned (.float .f64 r) ∧ floatToIntVal .f64 r .i64 = some z ∧ 0 ≤ z ∧ z ≤ 134217728 ∧ ∀ t : Int, 0 ≤ t → t * t = q → z = t) ∧ w' = w1) := Lib.hid fun w1 => by
        have := mathSqrt_any n w1 (by omega) (by omega)
        rw [hn] at this
        refine this.mono ?_
        rintro e w' ⟨⟨r, z, h1, h2, h3, h4, h5⟩, h6⟩
        refine ⟨⟨r, z, h1, h2, h3, h4, fun t ht htt => ?_⟩, h6⟩
        have := h5 t.toNat (by
          have e1 : ((t.toNat : Nat) : Int) = t := by omega
          have e2 : ((t.toNat * t.toNat : Nat) : Int) = (n : Int) := by push_cast; rw [e1, htt, hn]
          exact Int.ofNat.inj e2)
        omega
      have hmx : ¬ q < 0 := by omega
      clear k1 k2 k3 k4 k5 k6 hn
      go_wp2_with fail
      refine (hsq.out _).mono ?_
      rintro e1 wq ⟨⟨r, z, rfl, hz, z0, z1, ht⟩, rfl⟩
      have HT := Lib.hid ht
      have hcv : ∀ W : World, (convert 101 3 (.float .f64 r)).run Try.prog W = .ok (.int .i64 z) W := fun W => run_convert_float_int W 101 3 .f64 .i64 r z (by kernel_rfl) (by kernel_rfl) hz
      obtain ⟨zz1, zz2⟩ := mul_bd (show Bd 134217728 z from ⟨by omega, by omega⟩) (show Bd 134217728 z from ⟨by omega, by omega⟩) (show (134217728 : Int) * 134217728 ≤ 18014398509481984 by decide)
      have hzz : wrap64 (z * z) = z * z := by unfold wrap64; omega
      clear hsq ht zz1 zz2 hk1 hk2 hk3 hk4 hmx hq
      have fk := hK.out.froz
      by_cases hyes : 0 < z ∧ z * z = q
      · obtain ⟨hz0, hzq⟩ := hyes
        have hd1 : decide (z > 0) = true := decide_eq_true hz0
        have hd2 : (z * z == q) = true := by simp [hzq]
        have HSOL : Hid (SolS d s z u) := Lib.hid ⟨hz0, by omega, by rw [hzq, HQ.out]⟩
        have hsm : Hid (∀ w1, Calls Try.prog 50 #[.agg #[.int .i64 z, .int .i64 u]] w1 fun e w' => e = .returned (.bool (smallB z u)) ∧ Below w1.heap.size w1 w') := Lib.hid fun w1 => isSmall_any z u w1 ⟨by omega, by omega⟩
        obtain ⟨y2, ey2, kS, kK, kB⟩ : ∃ y2, wq.alloc (.cells #[.int .i64 z, .int .i64 u] 27) = y2 ∧ Blk wq.heap.size 27 #[.int .i64 z, .int .i64 u] y2 ∧ Blk w.heap.size 27 #[.int .i64 0, .int .i64 0] y2 ∧ Below w.heap.size w y2 :=
          ⟨_, rfl, Blk.new _ _ _, hK.out.alloc _, hBl.out.alloc (by have := hBl.out.size; omega) _⟩
        obtain ⟨bs, hbs⟩ : ∃ bs, wq.heap.size = bs := ⟨_, rfl⟩
        rw [hbs] at kS
        have c2 := kS.cell
        have l2 := kS.lt
        have KK := Lib.hid kK
        have KB := Lib.hid kB
        clear hzq kK kB kS ck lk fk hK hBl hz
        go_wp2_with fail
        try rw [ey2]
        refine wp_region_past_tail 3 (by kernel_rfl) (by kernel_rfl) ?_
        simp only [List.take_succ_cons, List.take_zero, List.drop_succ_cons, List.drop_zero]
        repeat (first | go_big_quiet_skip | (go_big_quiet_want; go_big_quiet_op; first | go_big_quiet_on | (apply Exists.intro; refine ⟨fun _ => ?_, ?_⟩; (focus (first | (go_at_call 50; exact past_of (hsm.out _)))); go_big_quiet_on)))
        refine wpQuiet_nil ?_
        intro w1 hw'
        have hB1 := past_below hw'
        clear hw'
        obtain ⟨hC1, hF1⟩ := bcell hB1
        have hS1 := hB1.size
        (try simp at hS1)
        (try have hS1_w0 : w.heap.size < w1.heap.size := by omega)
        (try have hS1_w1 : w.heap.size + 1 < w1.heap.size := by omega)
        (try have hS1_w2 : w.heap.size + 1 + 1 < w1.heap.size := by omega)
        (try have hS1_w3 : w.heap.size + 1 + 1 + 1 < w1.heap.size := by omega)
        (try have hS1_w4 : w.heap.size + 1 + 1 + 1 + 1 < w1.heap.size := by omega)
        have k3 := KK.out.below hB1
        have b3 : Below w.heap.size w w1 := KB.out.trans (hB1.mono KB.out.size)
        have f3 := k3.froz
        have c3 := k3.cell
        obtain ⟨y4, ey4, k4, z4, g4⟩ := k3.set2 (.int .i64 z) (.int .i64 u)
        have c4 := k4.cell
        have l4 := k4.lt
        have HB4 := Lib.hid (below_grown b3 g4 (by omega) (by have := b3.size; omega))
        have l3 := k3.lt
        clear k3 b3 hB1 hC1 hF1 k4 z4 g4 c2 l2 ey2
        have HR : Hid (LsR d s m z u (smallB z u)) := Lib.hid (.inl ⟨HSOL.out, by omega, hL.out, rfl⟩)
        clear hL
        cases hsb : smallB z u with
        | true =>
          rw [hsb] at HR
          clear hsb
          go_wp2_with fail
          refine bodyPost_ret (v := .tuple #[.agg #[.int .i64 z, .int .i64 u], .bool true]) (by go_light; simp [results, Try.results54, go_sem, *]) rfl ⟨⟨z, u, true, rfl, HR.out⟩, HB4.out⟩
        | false =>
          rw [hsb] at HR
          clear hsb
          go_wp2_with fail
          refine bodyPost_ret (v := .tuple #[.agg #[.int .i64 z, .int .i64 u], .bool false]) (by go_light; simp [results, Try.results54, go_sem, *]) rfl ⟨⟨z, u, false, rfl, HR.out⟩, HB4.out⟩
      · have HNX : Hid (∀ t' u', SolS d s t' u' → u + 1 ≤ u') := Lib.hid fun t' u' h => by
          have h1 := hL.out t' u' h
          by_cases he : u' = u
          · subst he
            exfalso
            apply hyes
            obtain ⟨a1, a2, a3⟩ := h
            rw [HQ.out] at a3
            have := HT.out t' (by omega) a3
            subst this
            exact ⟨a1, a3⟩
          · omega
        by_cases hz0 : 0 < z
        · have hd1 : decide (z > 0) = true := decide_eq_true hz0
          have hd2 : (z * z == q) = false := by simp only [beq_eq_false_iff_ne]; exact fun h => hyes ⟨hz0, h⟩
          clear hyes
          go_wp2_with fail
          go_roundw
          case rel =>
            go_light
            exact ⟨u + 1, by go_num, by omega, by omega, HNX, hK, hBl⟩
          case measure => simp [intOf]; omega
        · have hd1 : decide (z > 0) = false := decide_eq_false hz0
          clear hyes
          go_wp2_with fail
          go_roundw
          case rel =>
            go_light
            exact ⟨u + 1, by go_num, by omega, by omega, HNX, hK, hBl⟩
          case measure => simp [intOf]; omega
    · have HFIN : Hid (∀ t' u', SolS d s t' u' → m < u') := Lib.hid fun t' u' h => by have := hL.out t' u' h; omega
      have fk := hK.out.froz
      obtain ⟨y4, ey4, k4, z4, g4⟩ := hK.out.set2 (.int .i64 0) (.int .i64 0)
      have c4 := k4.cell
      have l4 := k4.lt
      have hBl := Lib.hid (below_grown hBl.out g4 (by omega) (by have := hBl.out.size; omega))
      clear hL z4 g4 k4
      go_wp2_with fail
      refine bodyPost_ret (v := .tuple #[.agg #[.int .i64 0, .int .i64 0], .bool false]) (by go_light; simp [results, Try.results54, go_sem, *]) rfl ⟨⟨0, 0, .inl ⟨rfl, .inr ⟨rfl, rfl, rfl, HFIN.out⟩⟩⟩, hBl.out⟩
end Go.Proofs.Ytemnkfigjpphgaa

/-
  The river of an indefinite form: the words of a form's automorphs. Plain mathematics.
-/
namespace Go.Proofs.Ytemnkfigjpphgaa
abbrev Fm := Int × Int × Int
abbrev Mt := Int × Int × Int × Int
/-- The product of two matrices. -/
def mm (M N : Mt) : Mt := (M.1 * N.1 + M.2.1 * N.2.2.1, M.1 * N.2.1 + M.2.1 * N.2.2.2, M.2.2.1 * N.1 + M.2.2.2 * N.2.2.1, M.2.2.1 * N.2.1 + M.2.2.2 * N.2.2.2)
def mI : Mt := (1, 0, 0, 1)
def mdet (M : Mt) : Int := M.1 * M.2.2.2 - M.2.1 * M.2.2.1
def mneg (M : Mt) : Mt := (-M.1, -M.2.1, -M.2.2.1, -M.2.2.2)
/-- A form moved by a matrix. -/
def fact (f : Fm) (M : Mt) : Fm :=
  (f.1 * M.1 * M.1 + f.2.1 * M.1 * M.2.2.1 + f.2.2 * M.2.2.1 * M.2.2.1, 2 * f.1 * M.1 * M.2.1 + f.2.1 * (M.1 * M.2.2.2 + M.2.2.1 * M.2.1) + 2 * f.2.2 * M.2.2.1 * M.2.2.2, f.1 * M.2.1 * M.2.1 + f.2.1 * M.2.1 * M.2.2.2 + f.2.2 * M.2.2.2 * M.2.2.2)
def fdisc (f : Fm) : Int := f.2.1 * f.2.1 - 4 * f.1 * f.2.2
theorem mm_assoc (M N K : Mt) : mm (mm M N) K = mm M (mm N K) := by
  refine Prod.ext ?_ (Prod.ext ?_ (Prod.ext ?_ ?_)) <;> simp only [mm] <;> grind
theorem mm_one (M : Mt) : mm M mI = M := by simp [mm, mI]
theorem one_mm (M : Mt) : mm mI M = M := by simp [mm, mI]
theorem mdet_mm (M N : Mt) : mdet (mm M N) = mdet M * mdet N := by simp only [mdet, mm]; grind
theorem fact_mm (f : Fm) (M N : Mt) : fact f (mm M N) = fact (fact f M) N := by
  refine Prod.ext ?_ (Prod.ext ?_ ?_) <;> simp only [fact, mm] <;> grind
theorem fact_one (f : Fm) : fact f mI = f := by simp [fact, mI]
theorem fact_neg (f : Fm) (M : Mt) : fact f (mneg M) = fact f M := by
  refine Prod.ext ?_ (Prod.ext ?_ ?_) <;> simp only [fact, mneg] <;> grind
theorem fdisc_fact (f : Fm) (M : Mt) : fdisc (fact f M) = mdet M * mdet M * fdisc f := by simp only [fdisc, fact, mdet]; grind
theorem mm_neg (M N : Mt) : mm M (mneg N) = mneg (mm M N) := by
  refine Prod.ext ?_ (Prod.ext ?_ (Prod.ext ?_ ?_)) <;> simp only [mm, mneg] <;> grind
theorem neg_mm (M N : Mt) : mm (mneg M) N = mneg (mm M N) := by
  refine Prod.ext ?_ (Prod.ext ?_ (Prod.ext ?_ ?_)) <;> simp only [mm, mneg] <;> grind
theorem mneg_mneg (M : Mt) : mneg (mneg M) = M := by simp [mneg]
/-- Not a square. -/
def NSq (d : Int) : Prop := ∀ x : Int, x * x ≠ d
/-- A form on the river. -/
structure Rv (f : Fm) : Prop where
  a : 0 < f.1
  c : f.2.2 < 0
  n : NSq (fdisc f)
def mR : Mt := (1, 1, 0, 1)
def mL : Mt := (1, 0, 1, 1)
/-- The next letter. -/
def rx (f : Fm) : Mt := if f.1 + f.2.1 + f.2.2 < 0 then mR else mL
/-- The next form. -/
def rv (f : Fm) : Fm := fact f (rx f)
theorem rx_det (f : Fm) : mdet (rx f) = 1 := by unfold rx; split <;> rfl
theorem rv_R {f : Fm} (h : f.1 + f.2.1 + f.2.2 < 0) : rv f = (f.1, 2 * f.1 + f.2.1, f.1 + f.2.1 + f.2.2) := by
  unfold rv rx
  rw [if_pos h]
  refine Prod.ext ?_ (Prod.ext ?_ ?_) <;> simp [fact, mR]
theorem rv_L {f : Fm} (h : ¬ f.1 + f.2.1 + f.2.2 < 0) : rv f = (f.1 + f.2.1 + f.2.2, f.2.1 + 2 * f.2.2, f.2.2) := by
  unfold rv rx
  rw [if_neg h]
  refine Prod.ext ?_ (Prod.ext ?_ ?_) <;> simp [fact, mL]
theorem Rv.sum {f : Fm} (h : Rv f) : f.1 + f.2.1 + f.2.2 ≠ 0 := by
  intro h0
  refine h.n (f.1 - f.2.2) ?_
  have : f.2.1 = -(f.1 + f.2.2) := by omega
  simp only [fdisc]
  rw [this]
  grind
theorem Rv.next {f : Fm} (h : Rv f) : Rv (rv f) := by
  have hd : fdisc (rv f) = fdisc f := by unfold rv; rw [fdisc_fact, rx_det]; omega
  have hs := h.sum
  have ha := h.a
  have hc := h.c
  by_cases hlt : f.1 + f.2.1 + f.2.2 < 0
  · have e := rv_R hlt
    refine ⟨by rw [e]; exact ha, by rw [e]; exact hlt, by rw [hd]; exact h.n⟩
  · have e := rv_L hlt
    refine ⟨by rw [e]; show 0 < f.1 + f.2.1 + f.2.2; omega, by rw [e]; exact hc, by rw [hd]; exact h.n⟩
/-- So many letters, and where they lead. -/
def rm : Nat → Fm → Mt
  | 0, _ => mI
  | n + 1, f => mm (rx f) (rm n (rv f))
def rvn : Nat → Fm → Fm
  | 0, f => f
  | n + 1, f => rvn n (rv f)
theorem rvn_add : ∀ (m n : Nat) (f : Fm), rvn (m + n) f = rvn n (rvn m f)
  | 0, n, f => by rw [Nat.zero_add]; rfl
  | m + 1, n, f => by rw [show m + 1 + n = (m + n) + 1 by omega]; exact rvn_add m n (rv f)
theorem rm_add : ∀ (m n : Nat) (f : Fm), rm (m + n) f = mm (rm m f) (rm n (rvn m f))
  | 0, n, f => by rw [Nat.zero_add]; exact (one_mm _).symm
  | m + 1, n, f => by
    rw [show m + 1 + n = (m + n) + 1 by omega]
    show mm (rx f) (rm (m + n) (rv f)) = mm (mm (rx f) (rm m (rv f))) (rm n (rvn m (rv f)))
    rw [rm_add m n (rv f), mm_assoc]
theorem Rv.nth {f : Fm} : ∀ (n : Nat) (_ : Rv f), Rv (rvn n f)
  | 0, h => h
  | n + 1, h => Rv.nth n h.next
theorem fact_rm : ∀ (n : Nat) (f : Fm), fact f (rm n f) = rvn n f
  | 0, f => fact_one f
  | n + 1, f => by
    show fact f (mm (rx f) (rm n (rv f))) = _
    rw [fact_mm]
    exact fact_rm n (rv f)
/-- Matrices without negative entries and with the determinant 1. -/
structure Nn (M : Mt) : Prop where
  p : 0 ≤ M.1
  q : 0 ≤ M.2.1
  r : 0 ≤ M.2.2.1
  s : 0 ≤ M.2.2.2
  d : mdet M = 1
theorem Nn.one : Nn mI := ⟨by decide, by decide, by decide, by decide, by decide⟩
theorem Nn.mul {M N : Mt} (h : Nn M) (k : Nn N) : Nn (mm M N) := by
  refine ⟨?_, ?_, ?_, ?_, by rw [mdet_mm, h.d, k.d]; rfl⟩
  · exact Int.add_nonneg (Int.mul_nonneg h.p k.p) (Int.mul_nonneg h.q k.r)
  · exact Int.add_nonneg (Int.mul_nonneg h.p k.q) (Int.mul_nonneg h.q k.s)
  · exact Int.add_nonneg (Int.mul_nonneg h.r k.p) (Int.mul_nonneg h.s k.r)
  · exact Int.add_nonneg (Int.mul_nonneg h.r k.q) (Int.mul_nonneg h.s k.s)
theorem Nn.diag {M : Mt} (h : Nn M) : 1 ≤ M.1 ∧ 1 ≤ M.2.2.2 := by
  have hd := h.d
  unfold mdet at hd
  have hqr := Int.mul_nonneg h.q h.r
  have hps : M.1 * M.2.2.2 ≥ 1 := by omega
  have p0 := h.p
  have s0 := h.s
  refine ⟨Int.le_of_not_gt fun hp => ?_, Int.le_of_not_gt fun hs => ?_⟩
  · have : M.1 = 0 := by omega
    rw [this, Int.zero_mul] at hps
    omega
  · have : M.2.2.2 = 0 := by omega
    rw [this, Int.mul_zero] at hps
    omega
theorem rx_nn (f : Fm) : Nn (rx f) := by
  unfold rx
  split
  · exact ⟨by decide, by decide, by decide, by decide, by decide⟩
  · exact ⟨by decide, by decide, by decide, by decide, by decide⟩
theorem rm_nn : ∀ (n : Nat) (f : Fm), Nn (rm n f)
  | 0, _ => Nn.one
  | n + 1, f => (rx_nn f).mul (rm_nn n (rv f))
/-- Longer words have greater entries. -/
theorem le_mm {M N : Mt} (h : Nn M) (k : Nn N) : M.1 ≤ (mm M N).1 ∧ M.2.1 ≤ (mm M N).2.1 ∧ M.2.2.1 ≤ (mm M N).2.2.1 ∧ M.2.2.2 ≤ (mm M N).2.2.2 := by
  obtain ⟨k1, k2⟩ := k.diag
  have a1 := Int.mul_le_mul_of_nonneg_left k1 h.p
  have a2 := Int.mul_le_mul_of_nonneg_left k2 h.q
  have a3 := Int.mul_le_mul_of_nonneg_left k1 h.r
  have a4 := Int.mul_le_mul_of_nonneg_left k2 h.s
  have b1 := Int.mul_nonneg h.q k.r
  have b2 := Int.mul_nonneg h.p k.q
  have b3 := Int.mul_nonneg h.s k.r
  have b4 := Int.mul_nonneg h.r k.q
  simp only [mm]
  refine ⟨by omega, by omega, by omega, by omega⟩
theorem rm_le {m n : Nat} (h : m ≤ n) (f : Fm) : (rm m f).1 ≤ (rm n f).1 ∧ (rm m f).2.1 ≤ (rm n f).2.1 ∧ (rm m f).2.2.1 ≤ (rm n f).2.2.1 ∧ (rm m f).2.2.2 ≤ (rm n f).2.2.2 := by
  obtain ⟨k, rfl⟩ : ∃ k, n = m + k := ⟨n - m, by omega⟩
  rw [rm_add]
  exact le_mm (rm_nn m f) (rm_nn k _)
/-- A matrix that is not the identity begins with a letter. -/
theorem nn_split {M : Mt} (h : Nn M) (h1 : M ≠ mI) : (M.2.2.1 ≤ M.1 ∧ M.2.2.2 ≤ M.2.1) ∨ (M.1 ≤ M.2.2.1 ∧ M.2.1 ≤ M.2.2.2) := by
  obtain ⟨p, q, r, s⟩ := M
  obtain ⟨hp, hq, hr, hs, hd⟩ := h
  simp only [mdet] at *
  by_cases c1 : r ≤ p
  · by_cases c2 : s ≤ q
    · exact .inl ⟨c1, c2⟩
    · -- r ≤ p, q < s
      by_cases c3 : p = r
      · exact .inr ⟨by omega, by omega⟩
      · exfalso
        -- p ≥ r + 1, s ≥ q + 1 : p s - q r ≥ (r+1)(q+1) - q r = r + q + 1
        have e1 : 0 ≤ (p - (r + 1)) * s := Int.mul_nonneg (by omega) (by omega)
        have e2 : 0 ≤ (r + 1) * (s - (q + 1)) := Int.mul_nonneg (by omega) (by omega)
        have e3 : p * s - q * r = (p - (r + 1)) * s + (r + 1) * (s - (q + 1)) + r + q + 1 := by grind
        have hr0 : r = 0 := by omega
        have hq0 : q = 0 := by omega
        subst hr0 hq0
        have hps : p * s = 1 := by omega
        have hp1 : p = 1 := by
          have := Int.mul_le_mul_of_nonneg_left (show 1 ≤ s by omega) (show 0 ≤ p by omega)
          omega
        subst hp1
        exact h1 (by simp only [mI]; rw [show s = 1 by omega])
  · refine .inr ⟨by omega, ?_⟩
    -- p < r
    refine Int.le_of_not_gt fun hqs => ?_
    have e1 : 0 ≤ (r - (p + 1)) * q := Int.mul_nonneg (by omega) (by omega)
    have e2 : 0 ≤ p * (q - s) := Int.mul_nonneg (by omega) (by omega)
    have e3 : p * s - q * r = -((r - (p + 1)) * q) - p * (q - s) - q := by grind
    omega
/-- All matrices that keep a form on the river are words of the river. -/
theorem river_word : ∀ (k : Nat) (f : Fm) (M : Mt), (M.1 + M.2.1 + M.2.2.1 + M.2.2.2).toNat ≤ k → Rv f → Nn M → 0 < (fact f M).1 → (fact f M).2.2 < 0 → ∃ n, M = rm n f := by
  intro k
  induction k with
  | zero =>
    intro f M hk _ hM _ _
    obtain ⟨d1, d2⟩ := hM.diag
    have := hM.q
    have := hM.r
    omega
  | succ k ih =>
    intro f M hk hf hM hA hC
    by_cases h1 : M = mI
    · exact ⟨0, h1⟩
    have hsp := nn_split hM h1
    obtain ⟨d1, d2⟩ := hM.diag
    have hs := hf.sum
    have fa := hf.a
    have fc := hf.c
    obtain ⟨p, q, r, s⟩ := M
    obtain ⟨A, B, C⟩ := f
    obtain ⟨hp, hq, hr, hs', hd⟩ := hM
    simp only [mdet, fact] at hk d1 d2 hs fa fc hA hC hp hq hr hs' hd hsp
    rcases hsp with ⟨c1, c2⟩ | ⟨c1, c2⟩
    · -- M = R M'
      have hlt : A + B + C < 0 := by
        refine Int.lt_of_not_ge fun hge => ?_
        have k1 : 0 ≤ A * ((q - s) * (q - s)) := Int.mul_nonneg (by omega) (by rcases Int.le_total 0 (q - s) with h | h; exact Int.mul_nonneg h h; exact Int.mul_nonneg_of_nonpos_of_nonpos h h)
        have k2 : 0 ≤ (2 * A + B) * ((q - s) * s) := Int.mul_nonneg (by omega) (Int.mul_nonneg (by omega) (by omega))
        have k3 : 0 ≤ (A + B + C) * (s * s) := Int.mul_nonneg (by omega) (Int.mul_nonneg (by omega) (by omega))
        have e : A * q * q + B * q * s + C * s * s = A * ((q - s) * (q - s)) + (2 * A + B) * ((q - s) * s) + (A + B + C) * (s * s) := by grind
        omega
      have hrx : rx (A, B, C) = mR := by unfold rx; rw [if_pos hlt]
      have hM2 : (p, q, r, s) = mm mR (p - r, q - s, r, s) := by
        refine Prod.ext ?_ (Prod.ext ?_ (Prod.ext ?_ ?_)) <;> simp [mm, mR]
      have hN : Nn (p - r, q - s, r, s) := ⟨by simp only; omega, by simp only; omega, hr, hs', by simp only [mdet]; grind⟩
      have hfm : fact (rv (A, B, C)) (p - r, q - s, r, s) = fact (A, B, C) (p, q, r, s) := by unfold rv; rw [hrx, ← fact_mm, ← hM2]
      have hr1 : 1 ≤ r + s := by omega
      obtain ⟨n, hn⟩ := ih (rv (A, B, C)) (p - r, q - s, r, s) (by simp only; omega) hf.next hN (by rw [hfm]; exact hA) (by rw [hfm]; exact hC)
      refine ⟨n + 1, ?_⟩
      show _ = mm (rx (A, B, C)) (rm n (rv (A, B, C)))
      rw [← hn, hrx]
      exact hM2
    · have hge : ¬ A + B + C < 0 := by
        intro hlt
        have k1 : 0 ≤ -C * ((r - p) * (r - p)) := Int.mul_nonneg (by omega) (by rcases Int.le_total 0 (r - p) with h | h; exact Int.mul_nonneg h h; exact Int.mul_nonneg_of_nonpos_of_nonpos h h)
        have k2 : 0 ≤ -(B + 2 * C) * ((r - p) * p) := Int.mul_nonneg (by omega) (Int.mul_nonneg (by omega) (by omega))
        have k3 : 0 ≤ -(A + B + C) * (p * p) := Int.mul_nonneg (by omega) (Int.mul_nonneg (by omega) (by omega))
        have e : A * p * p + B * p * r + C * r * r = -(-C * ((r - p) * (r - p))) - (-(B + 2 * C) * ((r - p) * p)) - (-(A + B + C) * (p * p)) := by grind
        omega
      have hrx : rx (A, B, C) = mL := by unfold rx; rw [if_neg hge]
      have hM2 : (p, q, r, s) = mm mL (p, q, r - p, s - q) := by
        refine Prod.ext ?_ (Prod.ext ?_ (Prod.ext ?_ ?_)) <;> simp [mm, mL] <;> omega
      have hN : Nn (p, q, r - p, s - q) := ⟨hp, hq, by simp only; omega, by simp only; omega, by simp only [mdet]; grind⟩
      have hfm : fact (rv (A, B, C)) (p, q, r - p, s - q) = fact (A, B, C) (p, q, r, s) := by unfold rv; rw [hrx, ← fact_mm, ← hM2]
      obtain ⟨n, hn⟩ := ih (rv (A, B, C)) (p, q, r - p, s - q) (by simp only; omega) hf.next hN (by rw [hfm]; exact hA) (by rw [hfm]; exact hC)
      refine ⟨n + 1, ?_⟩
      show _ = mm (rx (A, B, C)) (rm n (rv (A, B, C)))
      rw [← hn, hrx]
      exact hM2
/-- A solution and its matrix: t = 2 p + B u. -/
def autM (f : Fm) (p u : Int) : Mt := (p, -f.2.2 * u, f.1 * u, p + f.2.1 * u)
theorem aut_fix {f : Fm} {p u : Int} (h : p * p + f.2.1 * p * u + f.1 * f.2.2 * u * u = 1) : fact f (autM f p u) = f ∧ mdet (autM f p u) = 1 := by
  obtain ⟨A, B, C⟩ := f
  simp only [autM, fact, mdet] at *
  refine ⟨Prod.ext ?_ (Prod.ext ?_ ?_), ?_⟩
  · show A * p * p + B * p * (A * u) + C * (A * u) * (A * u) = A
    have : A * p * p + B * p * (A * u) + C * (A * u) * (A * u) = A * (p * p + B * p * u + A * C * u * u) := by grind
    rw [this, h, Int.mul_one]
  · show 2 * A * p * (-C * u) + B * (p * (p + B * u) + A * u * (-C * u)) + 2 * C * (A * u) * (p + B * u) = B
    have : 2 * A * p * (-C * u) + B * (p * (p + B * u) + A * u * (-C * u)) + 2 * C * (A * u) * (p + B * u) = B * (p * p + B * p * u + A * C * u * u) := by grind
    rw [this, h, Int.mul_one]
  · show A * (-C * u) * (-C * u) + B * (-C * u) * (p + B * u) + C * (p + B * u) * (p + B * u) = C
    have : A * (-C * u) * (-C * u) + B * (-C * u) * (p + B * u) + C * (p + B * u) * (p + B * u) = C * (p * p + B * p * u + A * C * u * u) := by grind
    rw [this, h, Int.mul_one]
  · show p * (p + B * u) - -C * u * (A * u) = 1
    rw [← h]; grind
theorem sq_pos {x : Int} : 0 ≤ x * x := by
  rcases Int.le_total 0 x with h | h
  · exact Int.mul_nonneg h h
  · exact Int.mul_nonneg_of_nonpos_of_nonpos h h
theorem lt_of_sq {a b : Int} (hb : 0 ≤ b) (h : a * a < b * b) : a < b := by
  refine Int.lt_of_not_ge fun hge => ?_
  have := Int.mul_le_mul hge hge hb (by omega)
  omega
/-- A positive solution gives a word of the river that leads back. -/
theorem aut_word {f : Fm} (hf : Rv f) {t u : Int} (ht : 0 < t) (hu : 0 < u) (h : t * t - fdisc f * (u * u) = 4) : ∃ p n, t = 2 * p + f.2.1 * u ∧ autM f p u = rm n f ∧ rvn n f = f ∧ 1 ≤ n := by
  have fa := hf.a
  have fc := hf.c
  have hpar : (t - f.2.1 * u) % 2 = 0 := by
    have h1 : (t - f.2.1 * u) * (t + f.2.1 * u) = 4 * (1 - f.1 * f.2.2 * (u * u)) := by
      simp only [fdisc] at h
      grind
    rcases (show (t - f.2.1 * u) % 2 = 0 ∨ (t - f.2.1 * u) % 2 = 1 by omega) with e | e
    · exact e
    · exfalso
      obtain ⟨x, hx⟩ : ∃ x, t - f.2.1 * u = 2 * x + 1 := ⟨(t - f.2.1 * u) / 2, by omega⟩
      obtain ⟨y, hy⟩ : ∃ y, t + f.2.1 * u = 2 * y + 1 := ⟨(t + f.2.1 * u) / 2, by omega⟩
      rw [hx, hy] at h1
      have : (2 * x + 1) * (2 * y + 1) = 2 * (2 * (x * y) + x + y) + 1 := by grind
      omega
  obtain ⟨p, hp⟩ : ∃ p, t - f.2.1 * u = 2 * p := ⟨(t - f.2.1 * u) / 2, by omega⟩
  have e1 : p * p + f.2.1 * p * u + f.1 * f.2.2 * u * u = 1 := by
    have : 4 * (p * p + f.2.1 * p * u + f.1 * f.2.2 * u * u) = 4 := by
      simp only [fdisc] at h
      have ht2 : t = 2 * p + f.2.1 * u := by omega
      rw [ht2] at h
      grind
    omega
  obtain ⟨a1, a2⟩ := aut_fix e1
  -- no negative entries
  have hpm : (f.2.1 * u) * (f.2.1 * u) < t * t := by
    have : t * t = (f.2.1 * u) * (f.2.1 * u) + 4 * (f.1 * -f.2.2 * (u * u)) + 4 := by
      simp only [fdisc] at h
      grind
    have h0 : 0 ≤ f.1 * -f.2.2 * (u * u) := Int.mul_nonneg (Int.mul_nonneg (by omega) (by omega)) sq_pos
    omega
  have b1 := lt_of_sq (b := t) (by omega) hpm
  have b2 := lt_of_sq (a := -(f.2.1 * u)) (b := t) (by omega) (by rw [Int.neg_mul_neg]; exact hpm)
  have hN : Nn (autM f p u) := ⟨show 0 ≤ p by omega, Int.mul_nonneg (by omega) (by omega), Int.mul_nonneg (by omega) (by omega), show 0 ≤ p + f.2.1 * u by omega, a2⟩
  obtain ⟨n, hn⟩ := river_word _ f _ (Nat.le_refl _) hf hN (by rw [a1]; exact fa) (by rw [a1]; exact fc)
  refine ⟨p, n, by omega, hn, by rw [← fact_rm, ← hn]; exact a1, ?_⟩
  refine Nat.one_le_iff_ne_zero.2 fun h0 => ?_
  subst h0
  have : f.1 * u = 0 := congrArg (fun M : Mt => M.2.2.1) hn
  have := Int.mul_pos fa hu
  omega
/-- A word that leads back, of a primitive form, is that of a solution. -/
theorem word_aut {f : Fm} {M : Mt} (h : fact f M = f) (hd : mdet M = 1) : f.1 * (M.2.2.2 - M.1) = f.2.1 * M.2.2.1 ∧ f.1 * M.2.1 = -(f.2.2 * M.2.2.1) := by
  obtain ⟨A, B, C⟩ := f
  obtain ⟨p, q, r, s⟩ := M
  simp only [fact, mdet] at *
  have h1 : A * p * p + B * p * r + C * r * r = A := congrArg (fun g : Fm => g.1) h
  have h2 : 2 * A * p * q + B * (p * s + r * q) + 2 * C * r * s = B := congrArg (fun g : Fm => g.2.1) h
  constructor
  · grind
  · grind
/-- The solution of a word that leads back. -/
theorem word_sol {f : Fm} {M : Mt} (h : fact f M = f) (hd : mdet M = 1) {u : Int} (ha : f.1 ≠ 0) (hu : M.2.2.1 = f.1 * u) : M = autM f M.1 u ∧ (M.1 + M.2.2.2) * (M.1 + M.2.2.2) - fdisc f * (u * u) = 4 := by
  obtain ⟨e1, e2⟩ := word_aut h hd
  obtain ⟨A, B, C⟩ := f
  obtain ⟨p, q, r, s⟩ := M
  simp only at *
  subst hu
  have k1 : s - p = B * u := Int.eq_of_mul_eq_mul_left ha (by rw [e1]; grind)
  have k2 : q = -C * u := Int.eq_of_mul_eq_mul_left ha (by rw [e2]; grind)
  have k3 : s = p + B * u := by omega
  subst k3
  subst k2
  refine ⟨rfl, ?_⟩
  simp only [mdet, fdisc] at hd ⊢
  grind
end Go.Proofs.Ytemnkfigjpphgaa
