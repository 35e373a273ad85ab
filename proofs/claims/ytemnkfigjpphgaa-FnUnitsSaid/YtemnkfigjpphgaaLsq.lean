/-
  The program's least solution.
-/
import Derived.Test.YtemnkfigjpphgaaSqw
import Derived.Test.YtemnkfigjpphgaaBlk
namespace Go.Proofs.Ytemnkfigjpphgaa
open Go.RowKit
attribute [local simp, local go_sem] past_cell past_frozen past_tape
def SolS (d s t u : Int) : Prop := 0 < t ∧ 0 < u ∧ t * t = d * u * u + s
def LsR (d s m t u : Int) (ok : Bool) : Prop := (SolS d s t u ∧ u ≤ m ∧ (∀ t' u', SolS d s t' u' → u ≤ u') ∧ ok = smallB t u) ∨ (t = 0 ∧ u = 0 ∧ ok = false ∧ ∀ t' u', SolS d s t' u' → m < u')
set_option maxRecDepth 100000 in
set_option maxHeartbeats 8000000 in
theorem leastSolution_any (d s m : Int) (w : World) (hd : 5 ≤ d ∧ d ≤ 1000) (hs : s = 4 ∨ s = -4) (hm : 0 ≤ m ∧ m ≤ 1000000) :
    Calls Try.prog 54 #[.int .i64 d, .int .i64 s, .int .i64 m] w fun e w' => (∃ t u ok, e = .returned (.tuple #[.agg #[.int .i64 t, .int .i64 u], .bool ok]) ∧ LsR d s m t u ok) ∧ Below w.heap.size w w' := by
  obtain ⟨d1, d2⟩ := hd
  obtain ⟨m1, m2⟩ := hm
  go_enter Try.func54, Try.ntmps54
  go_wp2_with fail
  go_loopw [8] (fun uv wr => ∃ u : Int, uv = .int .i64 u ∧ 1 ≤ u ∧ u ≤ m + 1 ∧ Hid (∀ t' u', SolS d s t' u' → u ≤ u') ∧ Hid (Blk w.heap.size 27 #[.int .i64 0, .int .i64 0] wr) ∧ Hid (Below w.heap.size w wr)) (fun uv _ => (m + 1 - intOf uv).toNat)
  case atStart =>
    exact ⟨1, rfl, by omega, by omega, Lib.hid fun t' u' h => by have := h.2.1; omega, Lib.hid (Blk.new _ _ _), Lib.hid (by repeat (first | with_reducible exact Below.refl _ _ | with_reducible assumption | ((with_reducible refine blA ?_ ?_); (focus (first | omega | (simp <;> omega)))) | (with_reducible refine blD ?_) | (with_reducible refine blN ?_) | ((with_reducible refine blS ?_ ?_); (focus (first | omega | (simp <;> omega)))) | ((with_reducible refine blT (by assumption) ?_ ?_); (focus (first | omega | (simp <;> omega))))))⟩
  case round =>
    obtain ⟨u, rfl, u1, u2, hL, hK, hBl⟩ := hrel
    have ck := hK.out.cell
    have lk := hK.out.lt
    by_cases hle : u ≤ m
    · obtain ⟨k1, k2⟩ := mul_bd (show Bd 1000 d from ⟨by omega, by omega⟩) (show Bd 1000000 u from ⟨by omega, by omega⟩) (show (1000 : Int) * 1000000 ≤ 1000000000 by decide)
      obtain ⟨k3, k4⟩ := mul_bd (show Bd 1000000000 (d * u) from ⟨k1, k2⟩) (show Bd 1000000 u from ⟨by omega, by omega⟩) (show (1000000000 : Int) * 1000000 ≤ 1000000000000000 by decide)
      have k5 : 5 ≤ d * u := by have := Int.mul_le_mul d1 u1 (by omega) (by omega); omega
      have k6 : 5 ≤ d * u * u := by have := Int.mul_le_mul k5 u1 (by omega) (by omega); omega
      have hk1 : wrap64 (d * u) = d * u := by unfold wrap64; omega
      have hk2 : wrap64 (d * u * u) = d * u * u := by unfold wrap64; omega
      obtain ⟨q, hq⟩ : ∃ q, d * u * u + s = q := ⟨_, rfl⟩
      have q1 : 1 ≤ q ∧ q ≤ 1000000000000004 := by rcases hs with rfl | rfl <;> omega
      have hk3 : wrap64 (d * u * u + s) = q := by rw [hq]; unfold wrap64; omega
      have hk4 : wrap64 q = q := by unfold wrap64; omega
      have hku : wrap64 (u + 1) = u + 1 := by unfold wrap64; omega
      have HQ := Lib.hid hq
      obtain ⟨n, hn⟩ : ∃ n : Nat, (n : Int) = q := ⟨q.toNat, by omega⟩
      have hsq : Hid (∀ w1, Calls Try.prog 105 #[.float .f64 (floatOfInt .f64 q)] w1 fun e w' => (∃ r z, e = .returned (.float .f64 r) ∧ floatToIntVal .f64 r .i64 = some z ∧ 0 ≤ z ∧ z ≤ 134217728 ∧ ∀ t : Int, 0 ≤ t → t * t = q → z = t) ∧ w' = w1) := Lib.hid fun w1 => by
        have := mathSqrt_any n w1 (by omega) (by omega)
        rw [hn] at this
        refine this.mono ?_
        rintro e w' ⟨⟨r, z, h1, h2, h3, h4, h5⟩, h6⟩
        refine ⟨⟨r, z, h1, h2, h3, h4, fun t ht htt => ?_⟩, h6⟩
        have := h5 t.toNat (by
          have e1 : ((t.toNat : Nat) : Int) = t := by omega
          have e2 : ((t.toNat * t.toNat : Nat) : Int) = (n : Int) := by push_cast; rw [e1, htt, hn]
          exact Int.ofNat.inj e2)
        omega
      have hmx : ¬ q < 0 := by omega
      clear k1 k2 k3 k4 k5 k6 hn
      go_wp2_with fail
      refine (hsq.out _).mono ?_
      rintro e1 wq ⟨⟨r, z, rfl, hz, z0, z1, ht⟩, rfl⟩
      have HT := Lib.hid ht
      have hcv : ∀ W : World, (convert 101 3 (.float .f64 r)).run Try.prog W = .ok (.int .i64 z) W := fun W => run_convert_float_int W 101 3 .f64 .i64 r z (by kernel_rfl) (by kernel_rfl) hz
      obtain ⟨zz1, zz2⟩ := mul_bd (show Bd 134217728 z from ⟨by omega, by omega⟩) (show Bd 134217728 z from ⟨by omega, by omega⟩) (show (134217728 : Int) * 134217728 ≤ 18014398509481984 by decide)
      have hzz : wrap64 (z * z) = z * z := by unfold wrap64; omega
      clear hsq ht zz1 zz2 hk1 hk2 hk3 hk4 hmx hq
      have fk := hK.out.froz
      by_cases hyes : 0 < z ∧ z * z = q
      · obtain ⟨hz0, hzq⟩ := hyes
        have hd1 : decide (z > 0) = true := decide_eq_true hz0
        have hd2 : (z * z == q) = true := by simp [hzq]
        have HSOL : Hid (SolS d s z u) := Lib.hid ⟨hz0, by omega, by rw [hzq, HQ.out]⟩
        have hsm : Hid (∀ w1, Calls Try.prog 50 #[.agg #[.int .i64 z, .int .i64 u]] w1 fun e w' => e = .returned (.bool (smallB z u)) ∧ Below w1.heap.size w1 w') := Lib.hid fun w1 => isSmall_any z u w1 ⟨by omega, by omega⟩
        obtain ⟨y2, ey2, kS, kK, kB⟩ : ∃ y2, wq.alloc (.cells #[.int .i64 z, .int .i64 u] 27) = y2 ∧ Blk wq.heap.size 27 #[.int .i64 z, .int .i64 u] y2 ∧ Blk w.heap.size 27 #[.int .i64 0, .int .i64 0] y2 ∧ Below w.heap.size w y2 :=
          ⟨_, rfl, Blk.new _ _ _, hK.out.alloc _, hBl.out.alloc (by have := hBl.out.size; omega) _⟩
        obtain ⟨bs, hbs⟩ : ∃ bs, wq.heap.size = bs := ⟨_, rfl⟩
        rw [hbs] at kS
        have c2 := kS.cell
        have l2 := kS.lt
        have KK := Lib.hid kK
        have KB := Lib.hid kB
        clear hzq kK kB kS ck lk fk hK hBl hz
        go_wp2_with fail
        try rw [ey2]
        refine wp_region_past_tail 3 (by kernel_rfl) (by kernel_rfl) ?_
        simp only [List.take_succ_cons, List.take_zero, List.drop_succ_cons, List.drop_zero]
        repeat (first | go_big_quiet_skip | (go_big_quiet_want; go_big_quiet_op; first | go_big_quiet_on | (apply Exists.intro; refine ⟨fun _ => ?_, ?_⟩; (focus (first | (go_at_call 50; exact past_of (hsm.out _)))); go_big_quiet_on)))
        refine wpQuiet_nil ?_
        intro w1 hw'
        have hB1 := past_below hw'
        clear hw'
        obtain ⟨hC1, hF1⟩ := bcell hB1
        have hS1 := hB1.size
        (try simp at hS1)
        (try have hS1_w0 : w.heap.size < w1.heap.size := by omega)
        (try have hS1_w1 : w.heap.size + 1 < w1.heap.size := by omega)
        (try have hS1_w2 : w.heap.size + 1 + 1 < w1.heap.size := by omega)
        (try have hS1_w3 : w.heap.size + 1 + 1 + 1 < w1.heap.size := by omega)
        (try have hS1_w4 : w.heap.size + 1 + 1 + 1 + 1 < w1.heap.size := by omega)
        have k3 := KK.out.below hB1
        have b3 : Below w.heap.size w w1 := KB.out.trans (hB1.mono KB.out.size)
        have f3 := k3.froz
        have c3 := k3.cell
        obtain ⟨y4, ey4, k4, z4, g4⟩ := k3.set2 (.int .i64 z) (.int .i64 u)
        have c4 := k4.cell
        have l4 := k4.lt
        have HB4 := Lib.hid (below_grown b3 g4 (by omega) (by have := b3.size; omega))
        have l3 := k3.lt
        clear k3 b3 hB1 hC1 hF1 k4 z4 g4 c2 l2 ey2
        have HR : Hid (LsR d s m z u (smallB z u)) := Lib.hid (.inl ⟨HSOL.out, by omega, hL.out, rfl⟩)
        clear hL
        cases hsb : smallB z u with
        | true =>
          rw [hsb] at HR
          clear hsb
          go_wp2_with fail
          refine bodyPost_ret (v := .tuple #[.agg #[.int .i64 z, .int .i64 u], .bool true]) (by go_light; simp [results, Try.results54, go_sem, *]) rfl ⟨⟨z, u, true, rfl, HR.out⟩, HB4.out⟩
        | false =>
          rw [hsb] at HR
          clear hsb
          go_wp2_with fail
          refine bodyPost_ret (v := .tuple #[.agg #[.int .i64 z, .int .i64 u], .bool false]) (by go_light; simp [results, Try.results54, go_sem, *]) rfl ⟨⟨z, u, false, rfl, HR.out⟩, HB4.out⟩
      · have HNX : Hid (∀ t' u', SolS d s t' u' → u + 1 ≤ u') := Lib.hid fun t' u' h => by
          have h1 := hL.out t' u' h
          by_cases he : u' = u
          · subst he
            exfalso
            apply hyes
            obtain ⟨a1, a2, a3⟩ := h
            rw [HQ.out] at a3
            have := HT.out t' (by omega) a3
            subst this
            exact ⟨a1, a3⟩
          · omega
        by_cases hz0 : 0 < z
        · have hd1 : decide (z > 0) = true := decide_eq_true hz0
          have hd2 : (z * z == q) = false := by simp only [beq_eq_false_iff_ne]; exact fun h => hyes ⟨hz0, h⟩
          clear hyes
          go_wp2_with fail
          go_roundw
          case rel =>
            go_light
            exact ⟨u + 1, by go_num, by omega, by omega, HNX, hK, hBl⟩
          case measure => simp [intOf]; omega
        · have hd1 : decide (z > 0) = false := decide_eq_false hz0
          clear hyes
          go_wp2_with fail
          go_roundw
          case rel =>
            go_light
            exact ⟨u + 1, by go_num, by omega, by omega, HNX, hK, hBl⟩
          case measure => simp [intOf]; omega
    · have HFIN : Hid (∀ t' u', SolS d s t' u' → m < u') := Lib.hid fun t' u' h => by have := hL.out t' u' h; omega
      have fk := hK.out.froz
      obtain ⟨y4, ey4, k4, z4, g4⟩ := hK.out.set2 (.int .i64 0) (.int .i64 0)
      have c4 := k4.cell
      have l4 := k4.lt
      have hBl := Lib.hid (below_grown hBl.out g4 (by omega) (by have := hBl.out.size; omega))
      clear hL z4 g4 k4
      go_wp2_with fail
      refine bodyPost_ret (v := .tuple #[.agg #[.int .i64 0, .int .i64 0], .bool false]) (by go_light; simp [results, Try.results54, go_sem, *]) rfl ⟨⟨0, 0, .inl ⟨rfl, .inr ⟨rfl, rfl, rfl, HFIN.out⟩⟩⟩, hBl.out⟩
end Go.Proofs.Ytemnkfigjpphgaa
