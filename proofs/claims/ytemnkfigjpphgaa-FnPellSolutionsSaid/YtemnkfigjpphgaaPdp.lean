/-
  The reference's draw of two solutions.
-/
import Derived.Test.YtemnkfigjpphgaaPds
namespace Go.Proofs.Ytemnkfigjpphgaa
open Go.RowKit
attribute [local simp, local go_sem] past_cell past_frozen past_tape
theorem CodeOk.rest {g : Nat} {w : World} {a : Option Addr} {len cap : Nat} (h : CodeOk g w a len) (hcap : len ≤ cap) (k : Nat) : CodeOk g w (if cap = k then a else a.map (fun x => x.add k)) (len - k) := by
  rcases Nat.eq_zero_or_pos (len - k) with h0 | h0
  · exact .inl h0
  rcases h with h | ⟨b, o, rfl, h2, h3, h4⟩
  · omega
  · rw [if_neg (by omega)]
    rcases Nat.eq_zero_or_pos k with hk | hk
    · subst hk
      exact .inr ⟨b, o, by simp [Addr.add], h2, h3, fun i hi => h4 i (by omega)⟩
    · refine .inr ⟨b, o + k, by simp [Addr.add]; omega, h2, h3, fun i hi => ?_⟩
      have := h4 (k + i) (by omega)
      rwa [show o + (k + i) = o + k + i by omega] at this
/-- The blocks of the draw. -/
structure DB (w wr : World) (m : Nat) : Prop where
  r : Blk w.heap.size 27 #[.int .i64 0, .int .i64 0] wr
  q : Blk (w.heap.size + 1) 27 #[.int .i64 0, .int .i64 0] wr
  c : Cur m (w.heap.size + 1 + 1) wr
  s : w.grownBy wr none
theorem DB.draw {w wr w' : World} {m m' : Nat} (h : DB w wr m) (k : Cur m' (w.heap.size + 1 + 1) w') (g1 : wr.grownBy w' (some (w.heap.size + 1 + 1))) : DB w w' m' :=
  ⟨h.r.grown g1 (by simp; omega), h.q.grown g1 (by simp), k, gO (by omega) g1 h.s⟩
theorem DB.below {w wr w' : World} {m : Nat} (h : DB w wr m) (hb : Below wr.heap.size wr w') : DB w w' m :=
  ⟨h.r.below hb, h.q.below hb, kB hb h.c, gB hb h.s⟩
theorem DB.mono {w wr : World} {m m' : Nat} (h : DB w wr m) (hm : m ≤ m') : DB w wr m' := ⟨h.r, h.q, h.c.mono hm, h.s⟩
set_option maxRecDepth 100000 in
set_option maxHeartbeats 8000000 in
theorem drawPellProduct_any (a : Option Addr) (len cap : Nat) (w : World) (hc : CodeOk w.heap.size w a len) (hl : len ≤ 140737488355328) (hcap : len ≤ cap) :
    Calls Try.prog 14 #[.slice a len cap] w fun e w' => (∃ (d : Int) (x y : Int × Int), e = .returned (.tuple #[.int .i64 d, .agg #[.int .i64 x.1, .int .i64 x.2], .agg #[.int .i64 y.1, .int .i64 y.2]]) ∧ I64 d ∧ I64 x.1 ∧ I64 y.1) ∧ Below w.heap.size w w' := by
  obtain ⟨V, hV, H0⟩ : ∃ V, ((w.alloc (.cells #[.int .i64 0, .int .i64 0] 27)).alloc (.cells #[.int .i64 0, .int .i64 0] 27)).alloc (.cells #[.slice a len cap, .int .i64 0, .int .u64 0] 67) = V ∧ Hid (DB w V 0) := by
    refine ⟨_, rfl, Lib.hid ⟨((Blk.new _ _ _).alloc _).alloc _, ?_, ?_, gA (gA (gA (grown_id _ _)))⟩⟩
    · have := (Blk.new (w.alloc (.cells #[.int .i64 0, .int .i64 0] 27)) 27 #[.int .i64 0, .int .i64 0]).alloc (.cells #[.slice a len cap, .int .i64 0, .int .u64 0] 67)
      simpa using this
    · have h := Cur.made (w := (w.alloc (.cells #[.int .i64 0, .int .i64 0] 27)).alloc (.cells #[.int .i64 0, .int .i64 0] 27)) (cap := cap) (t := 67) (hc.up (by simp; omega) (((Below.refl _ _).alloc (Nat.le_refl _) _).alloc (by simp) _)) hl
      simpa using h
  have HC := Lib.hid (fun (x : World) (h : Below w.heap.size w x) => hc.up h.size h)
  have HV := Lib.hid hV
  clear hc hV
  go_enter Try.func14, Try.ntmps14
  go_wp2_with fail
  try rw [HV.out]
  refine (positive_any _ (w.heap.size + 1 + 1) _ H0.out.c (by omega)).mono ?_
  rintro e1 w1 ⟨⟨d1, rfl, p1, -⟩, k1, g1⟩
  have h1 := Lib.hid (H0.out.draw k1 g1)
  clear k1 g1 H0 HV
  go_upto_if 13 with fail
  refine (one_any _ (w.heap.size + 1 + 1) _ _ h1.out.c (by omega) (by omega)).mono ?_
  rintro e2 w2 ⟨⟨x2, rfl, -, -⟩, k2, g2⟩
  have h2 := Lib.hid (h1.out.draw k2 g2)
  clear k2 g2 h1
  go_upto_if 13 with fail
  go_cut [6] from 10 (fun s6 wx => ∃ d, s6 = .int .i64 d ∧ I64 d ∧ Hid (DB w wx (0 + 10 + 2)))
  case first =>
    cases x2 with
    | false =>
      go_wp2_with fail
      go_meet
      case rel => exact ⟨d1, rfl, p1, h2⟩
    | true =>
      have hcA : ¬ cap = len / 2 → CodeOk w2.heap.size w2 (Option.map (fun x => x.add (len / 2)) a) (len - len / 2) := fun h => by
        have := (HC.out w2 (below_of_none h2.out.s)).rest hcap (len / 2)
        rwa [if_neg h] at this
      by_cases hcl : cap = len / 2
      · have h0 : len = 0 := by omega
        have h1 : cap = 0 := by omega
        subst h0 h1
        clear hcA hcl
        go_wp2_with fail
        refine (drawPellMinusFour_any _ _ _ _ (.inl (by omega)) (by omega)).mono ?_
        rintro e3 w3 ⟨⟨x3, rfl, p3⟩, hB3⟩
        have h3 := Lib.hid (h2.out.below hB3)
        clear hB3 h2
        go_wp2_with fail
        go_meet
        case rel => exact ⟨x3, rfl, p3, h3⟩
      · go_wp2_with fail
        refine (drawPellMinusFour_any _ _ _ _ (hcA hcl) (by omega)).mono ?_
        rintro e3 w3 ⟨⟨x3, rfl, p3⟩, hB3⟩
        have h3 := Lib.hid (h2.out.below hB3)
        clear hB3 h2 hcA
        go_wp2_with fail
        go_meet
        case rel => exact ⟨x3, rfl, p3, h3⟩
  case rest =>
  clear h2
  obtain ⟨d, rfl, hd, hK⟩ := hcut
  go_wp2_with fail
  refine (solution_any _ (w.heap.size + 1 + 1) d _ hK.out.c (by omega) hd).mono ?_
  rintro e3 w3 ⟨⟨⟨t1, u1⟩, rfl, i1, -⟩, k3, g3⟩
  have h3 := Lib.hid (hK.out.draw k3 g3)
  clear hK k3 g3
  go_wp2_with fail
  refine (solution_any _ (w.heap.size + 1 + 1) d _ h3.out.c (by omega) hd).mono ?_
  rintro e4 w4 ⟨⟨⟨t2, u2⟩, rfl, i2, -⟩, k4, g4⟩
  have h4 := Lib.hid (h3.out.draw k4 g4)
  clear h3 k4 g4
  have c4 := h4.out.r.cell
  have f4 := h4.out.r.froz
  have l4 := h4.out.r.lt
  have c5 := h4.out.q.cell
  have f5 := h4.out.q.froz
  have l5 := h4.out.q.lt
  obtain ⟨y1, e1, K1, z1, G1⟩ := h4.out.r.set2 (.int .i64 t1) (.int .i64 u1)
  have q1 := h4.out.q.grown G1 (by simp)
  have s1 := gO (Nat.le_refl _) G1 h4.out.s
  have c6 := q1.cell
  have f6 := q1.froz
  obtain ⟨y2, e2, K2, z2, G2⟩ := q1.set2 (.int .i64 t2) (.int .i64 u2)
  have r2 := (K1.grown G2 (by simp)).cell
  have c7 := K2.cell
  have s2 := Lib.hid (below_of_none (gO (by omega) G2 s1))
  clear K1 z1 G1 q1 s1 K2 z2 G2 h4
  go_wp2_with fail
  refine bodyPost_ret (v := .tuple #[.int .i64 d, .agg #[.int .i64 t1, .int .i64 u1], .agg #[.int .i64 t2, .int .i64 u2]]) (by go_light; simp [results, Try.results14, go_sem, *]) rfl ⟨⟨d, (t1, u1), (t2, u2), rfl, hd, i1, i2⟩, s2.out⟩
end Go.Proofs.Ytemnkfigjpphgaa
