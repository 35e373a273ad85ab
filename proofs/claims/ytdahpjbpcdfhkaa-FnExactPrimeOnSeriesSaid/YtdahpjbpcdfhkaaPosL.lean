/-
  PrimeOnSeries: the law. Printed by nums.py.
-/
import Derived.Test.YtdahpjbpcdfhkaaPos
namespace Go.Proofs.Ytdahpjbpcdfhkaa
open Go.RowKit
attribute [local simp, local go_sem] past_cell past_frozen past_tape
set_option maxRecDepth 100000 in
set_option maxHeartbeats 8000000 in
theorem law_primeOnSeries (d p : Int) (a : Option Addr) (len cap : Nat) (zs : List Int) (w : World) (hd : I64 d) (_ : I64 p) (h : IArg w a len zs) (hlc : len ≤ cap) (hl : len ≤ 9223372036854775807) :
    Calls Try.prog 7 #[.int .i64 d, .int .i64 p, .slice a len cap] w fun en w' => en = .returned (.bool true) ∧ Below w.heap.size w w' := by
  have H := Lib.hid h
  clear h
  by_cases big : 1048576 < (len : Int)
  · go_enter Try.func7, Try.ntmps7
    go_wp2
    go_ret
    exact ⟨rfl, Below.refl _ _⟩
  have sm : len ≤ 1048576 := by omega
  have HZ : Hid (zs.length = len) := H.out.1
  clear big
  obtain ⟨R, hR⟩ : ∃ R, R = psR d p zs := ⟨_, rfl⟩
  have hlen : R.1.length ≤ 1100000 := by rw [hR]; exact psR_len d p zs
  have HR := Lib.hid hR
  clear hR
  obtain ⟨n', hn'⟩ : ∃ n', R.1.length = n' := ⟨_, rfl⟩
  rw [hn'] at hlen
  have HN := Lib.hid hn'
  clear hn'
  go_enter Try.func7, Try.ntmps7
  have BW0 := Lib.hid (Below.refl w.heap.size w)
  go_wp2_with fail
  refine (toIntS_any a len cap zs _ (H.out.later BW0.out) sm hlc).mono ?_
  rintro e1 v1 ⟨x1, rfl, hr, hB⟩
  have hz1 := hB.size
  have D1 := Lib.hid hB
  have BW1 := Lib.hid (BW0.out.trans (hB.mono (by omega)))
  obtain ⟨pQ0, cQ0, hv, hk, _, hs⟩ := hr.sees c1_len
  rw [HZ.out] at hv hk
  subst hv
  clear hk hs
  have Q0_1 := Lib.hid hr
  clear hr
  clear hB
  have hq := specPos_any d p _ len cQ0 _ zs v1 hd HZ.out (Q0_1.out.seen c1_len).1 (by omega)
  rw [← HR.out] at hq
  go_wp2_with fail
  refine hq.mono ?_
  clear hq
  rintro e2 v2 ⟨x2, rfl, hr, hB⟩
  have hz2 := hB.size
  have BW2 := Lib.hid (BW1.out.trans (hB.mono (by omega)))
  have Q0_2 := Lib.hid (Q0_1.out.later hB)
  clear Q0_1
  obtain ⟨pG0, cG0, hv, hk, _, hs⟩ := hr.sees c1_len
  rw [HN.out] at hv hk
  subst hv
  clear hk hs
  have G0_2 := Lib.hid hr
  clear hr hB
  have LTG0 : Hid (∀ g, (Value.slice pG0 n' cG0).ownBlock = some g → g < v2.heap.size) := fun g hg => (G0_2.out.lt g hg).2
  clear Q0_2
  go_wp2_with fail
  refine (toIntS_any a len cap zs _ (H.out.later BW2.out) sm hlc).mono ?_
  rintro e3 v3 ⟨x3, rfl, hr, hB⟩
  have hz3 := hB.size
  have D3 := Lib.hid hB
  have BW3 := Lib.hid (BW2.out.trans (hB.mono (by omega)))
  have G0_3 := Lib.hid (G0_2.out.later hB)
  clear G0_2
  obtain ⟨pX0, cX0, hv, hk, _, hs⟩ := hr.sees c1_len
  rw [HZ.out] at hv hk
  subst hv
  clear hk hs
  have X0_3 := Lib.hid hr
  clear hr
  clear hB
  have LTX0 : Hid (∀ g, (Value.slice pX0 len cX0).ownBlock = some g → g < v3.heap.size) := fun g hg => (X0_3.out.lt g hg).2
  have hq := implPos_any d p _ len cX0 _ zs v3 hd HZ.out (X0_3.out.seen c1_len).1 (by omega)
  rw [← HR.out] at hq
  go_wp2_with fail
  refine hq.mono ?_
  clear hq
  rintro e4 v4 ⟨x4, rfl, hr, hB⟩
  have hz4 := hB.size
  have BW4 := Lib.hid (BW3.out.trans (hB.mono (by omega)))
  have G0_4 := Lib.hid (G0_3.out.later hB)
  clear G0_3
  have X0_4 := Lib.hid (X0_3.out.later hB)
  clear X0_3
  obtain ⟨pG1, cG1, hv, hk, _, hs⟩ := hr.sees c1_len
  rw [HN.out] at hv hk
  subst hv
  clear hk hs
  have G1_4 := Lib.hid hr
  clear hr hB
  have LTG1 : Hid (∀ g, (Value.slice pG1 n' cG1).ownBlock = some g → g < v4.heap.size) := fun g hg => (G1_4.out.lt g hg).2
  go_wp2_with fail
  refine (eqIntS_same _ _ _ _ _ _ _ _ _ HN.out (G1_4.out.seen c1_len).1 (G0_4.out.seen c1_len).1 hlen).mono ?_
  rintro e5 v5 ⟨rfl, hB⟩
  have hz5 := hB.size
  have D5 := Lib.hid hB
  have BW5 := Lib.hid (BW4.out.trans (hB.mono (by omega)))
  have G0_5 := Lib.hid (G0_4.out.later hB)
  clear G0_4
  have X0_5 := Lib.hid (X0_4.out.later hB)
  clear X0_4
  have G1_5 := Lib.hid (G1_4.out.later hB)
  clear G1_4
  clear hB
  go_wp2_with fail
  refine (toIntS_any a len cap zs _ (H.out.later BW5.out) sm hlc).mono ?_
  rintro e6 v6 ⟨x6, rfl, hr, hB⟩
  have hz6 := hB.size
  have D6 := Lib.hid hB
  have BW6 := Lib.hid (BW5.out.trans (hB.mono (by omega)))
  have G0_6 := Lib.hid (G0_5.out.later hB)
  clear G0_5
  have X0_6 := Lib.hid (X0_5.out.later hB)
  clear X0_5
  have G1_6 := Lib.hid (G1_5.out.later hB)
  clear G1_5
  obtain ⟨pQ0, cQ0, hv, hk, _, hs⟩ := hr.sees c1_len
  rw [HZ.out] at hv hk
  subst hv
  clear hk hs
  have Q0_6 := Lib.hid hr
  clear hr
  clear hB
  go_wp2_with fail
  refine (eqIntS_same _ _ _ _ _ _ _ _ _ HZ.out (X0_6.out.seen c1_len).1 (Q0_6.out.seen c1_len).1 (by omega)).mono ?_
  rintro e7 v7 ⟨rfl, hB⟩
  have hz7 := hB.size
  have D7 := Lib.hid hB
  have BW7 := Lib.hid (BW6.out.trans (hB.mono (by omega)))
  have G0_7 := Lib.hid (G0_6.out.later hB)
  clear G0_6
  have X0_7 := Lib.hid (X0_6.out.later hB)
  clear X0_6
  have G1_7 := Lib.hid (G1_6.out.later hB)
  clear G1_6
  have Q0_7 := Lib.hid (Q0_6.out.later hB)
  clear Q0_6
  clear hB
  clear Q0_7
  go_wp2_with fail
  have HB7 : ∀ g, (Value.slice pX0 len cX0).ownBlock = some g → w.heap.size ≤ g := fun g hg => by have := (X0_7.out.lt g hg).1; omega
  refine (markIntS_any _ len _ _ (1) _ HZ.out X0_7.out (by omega) (by omega) (by omega)).mono ?_
  rintro e8 v8 ⟨rfl, hM, hg⟩
  have hz8 := hg.size
  have hap : (Value.slice pG0 n' cG0).ownBlock = none ∨ (Value.slice pG0 n' cG0).ownBlock ≠ (Value.slice pX0 len cX0).ownBlock := by
    cases h0 : (Value.slice pG0 n' cG0).ownBlock with
    | none => exact .inl rfl
    | some g => right; intro h1; have q1 := LTG0.out g h0; have q2 := (X0_7.out.lt g h1.symm).1; omega
  have G0_8 := Lib.hid (G0_7.out.apart hg hap)
  clear hap
  have hap : (Value.slice pG1 n' cG1).ownBlock = none ∨ (Value.slice pG1 n' cG1).ownBlock ≠ (Value.slice pX0 len cX0).ownBlock := by
    cases h0 : (Value.slice pG1 n' cG1).ownBlock with
    | none => exact .inl rfl
    | some g => right; intro h1; have q1 := LTX0.out g h1.symm; have q2 := (G1_7.out.lt g h0).1; omega
  have G1_8 := Lib.hid (G1_7.out.apart hg hap)
  clear hap
  clear G0_7
  clear X0_7
  clear G1_7
  have BW8 := Lib.hid (below_of_grown BW7.out hg (by omega) HB7)
  clear HB7
  clear hM hg
  go_wp2_with fail
  refine (eqIntS_same _ _ _ _ _ _ _ _ _ HN.out (G1_8.out.seen c1_len).1 (G0_8.out.seen c1_len).1 hlen).mono ?_
  rintro e9 v9 ⟨rfl, hB⟩
  have hz9 := hB.size
  have D9 := Lib.hid hB
  have BW9 := Lib.hid (BW8.out.trans (hB.mono (by omega)))
  have G0_9 := Lib.hid (G0_8.out.later hB)
  clear G0_8
  have G1_9 := Lib.hid (G1_8.out.later hB)
  clear G1_8
  clear hB
  go_wp2_with fail
  have HB9 : ∀ g, (Value.slice pG1 n' cG1).ownBlock = some g → w.heap.size ≤ g := fun g hg => by have := (G1_9.out.lt g hg).1; omega
  refine (markIntS_any _ n' _ _ (1) _ HN.out G1_9.out hlen (by omega) (by omega)).mono ?_
  rintro e10 v10 ⟨rfl, hM, hg⟩
  have hz10 := hg.size
  have hap : (Value.slice pG0 n' cG0).ownBlock = none ∨ (Value.slice pG0 n' cG0).ownBlock ≠ (Value.slice pG1 n' cG1).ownBlock := by
    cases h0 : (Value.slice pG0 n' cG0).ownBlock with
    | none => exact .inl rfl
    | some g => right; intro h1; have q1 := LTG0.out g h0; have q2 := (G1_9.out.lt g h1.symm).1; omega
  have G0_10 := Lib.hid (G0_9.out.apart hg hap)
  clear hap
  clear G0_9
  clear G1_9
  have BW10 := Lib.hid (below_of_grown BW9.out hg (by omega) HB9)
  clear HB9
  obtain ⟨am, km, hem, hms⟩ := hM.sees
  simp only [Value.slice.injEq] at hem
  obtain ⟨rfl, -, rfl⟩ := hem
  have M_10 := Lib.hid hms
  clear hms
  clear hM hg
  go_wp2_with fail
  refine (heldIntS_any n' _ _ 1 _ M_10.out hlen (by omega) (by omega)).mono ?_
  rintro e11 v11 ⟨rfl, hB⟩
  have hz11 := hB.size
  have D11 := Lib.hid hB
  have BW11 := Lib.hid (BW10.out.trans (hB.mono (by omega)))
  have G0_11 := Lib.hid (G0_10.out.later hB)
  clear G0_10
  have M_11 := Lib.hid (M_10.out.below hB)
  clear M_10
  clear hB
  go_wp2_with fail
  refine (toIntS_any a len cap zs _ (H.out.later BW11.out) sm hlc).mono ?_
  rintro e12 v12 ⟨x12, rfl, hr, hB⟩
  have hz12 := hB.size
  have D12 := Lib.hid hB
  have BW12 := Lib.hid (BW11.out.trans (hB.mono (by omega)))
  have G0_12 := Lib.hid (G0_11.out.later hB)
  clear G0_11
  have M_12 := Lib.hid (M_11.out.below hB)
  clear M_11
  obtain ⟨pQ0, cQ0, hv, hk, _, hs⟩ := hr.sees c1_len
  rw [HZ.out] at hv hk
  subst hv
  clear hk hs
  have Q0_12 := Lib.hid hr
  clear hr
  clear hB
  have hq := implPos_any d p _ len cQ0 _ zs v12 hd HZ.out (Q0_12.out.seen c1_len).1 (by omega)
  rw [← HR.out] at hq
  go_wp2_with fail
  refine hq.mono ?_
  clear hq
  rintro e13 v13 ⟨x13, rfl, hr, hB⟩
  have hz13 := hB.size
  have BW13 := Lib.hid (BW12.out.trans (hB.mono (by omega)))
  have G0_13 := Lib.hid (G0_12.out.later hB)
  clear G0_12
  have Q0_13 := Lib.hid (Q0_12.out.later hB)
  clear Q0_12
  have M_13 := Lib.hid (M_12.out.below hB)
  clear M_12
  obtain ⟨pG2, cG2, hv, hk, _, hs⟩ := hr.sees c1_len
  rw [HN.out] at hv hk
  subst hv
  clear hk hs
  have G2_13 := Lib.hid hr
  clear hr hB
  go_wp2_with fail
  refine (eqIntS_same _ _ _ _ _ _ _ _ _ HN.out (G2_13.out.seen c1_len).1 (G0_13.out.seen c1_len).1 hlen).mono ?_
  rintro e14 v14 ⟨rfl, hB⟩
  have hz14 := hB.size
  have D14 := Lib.hid hB
  have BW14 := Lib.hid (BW13.out.trans (hB.mono (by omega)))
  have G0_14 := Lib.hid (G0_13.out.later hB)
  clear G0_13
  have Q0_14 := Lib.hid (Q0_13.out.later hB)
  clear Q0_13
  have G2_14 := Lib.hid (G2_13.out.later hB)
  clear G2_13
  have M_14 := Lib.hid (M_13.out.below hB)
  clear M_13
  clear hB
  go_wp2_with fail
  refine (heldIntS_any n' _ _ 1 _ M_14.out hlen (by omega) (by omega)).mono ?_
  rintro e15 v15 ⟨rfl, hB⟩
  have hz15 := hB.size
  have D15 := Lib.hid hB
  have BW15 := Lib.hid (BW14.out.trans (hB.mono (by omega)))
  have G0_15 := Lib.hid (G0_14.out.later hB)
  clear G0_14
  have Q0_15 := Lib.hid (Q0_14.out.later hB)
  clear Q0_14
  have G2_15 := Lib.hid (G2_14.out.later hB)
  clear G2_14
  have M_15 := Lib.hid (M_14.out.below hB)
  clear M_14
  clear hB
  go_wp2
  go_ret
  exact ⟨rfl, BW15.out⟩
end Go.Proofs.Ytdahpjbpcdfhkaa
