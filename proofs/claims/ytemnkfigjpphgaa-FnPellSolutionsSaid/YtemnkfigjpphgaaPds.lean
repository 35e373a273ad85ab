/-
  The reference's draws of solutions: the draw of one solution.
-/
import Derived.Test.YtemnkfigjpphgaaPdr
namespace Go.Proofs.Ytemnkfigjpphgaa
open Go.RowKit
attribute [local simp, local go_sem] past_cell past_frozen past_tape
set_option maxRecDepth 100000 in
set_option maxHeartbeats 8000000 in
theorem solution_any (m g : Nat) (d : Int) (w : World) (h : Cur m g w) (hm : m ≤ 900000) (hd : I64 d) :
    Calls Try.prog 59 #[.pointer (some ⟨g, 0, none⟩), .int .i64 d] w fun e w' => (∃ x : Int × Int, e = .returned (.agg #[.int .i64 x.1, .int .i64 x.2]) ∧ I64 x.1 ∧ True) ∧ Cur (m + 20) g w' ∧ w.grownBy w' (some g) := by
  have hlt := h.lt
  have hdisc := Lib.hid fun w1 => cyDisc_any d w1 hd
  go_enter Try.func59, Try.ntmps59
  go_upto_if 12 with (first | (go_at_call 46; refine (hdisc.out _).mono ?_; rintro e w' ⟨rfl, rfl⟩))
  obtain ⟨V, hV, H0⟩ : ∃ V, (w.alloc (.cells #[.int .i64 0, .int .i64 0] 27)).alloc (.cells #[.int .i64 2, .int .i64 0] 27) = V ∧ Hid (SB w V g m 2 0) := by
    refine ⟨_, rfl, Lib.hid ⟨(Blk.new _ _ _).alloc _, ?_, kA (kA h), gA (gA (grown_id _ _)), by unfold I64; omega⟩⟩
    have := Blk.new (w.alloc (.cells #[.int .i64 0, .int .i64 0] 27)) 27 #[.int .i64 2, .int .i64 0]
    simpa using this
  clear h
  rw [hV]
  clear hV hdisc
  go_cut [] from 6 (fun wx => ∃ t u, Hid (SB w wx g (m + 4) t u))
  case first =>
    cases hp : posB d with
    | false =>
      go_wp2_with fail
      go_meet
      case rel => exact ⟨2, 0, Lib.hid (H0.out.mono (by omega))⟩
    | true =>
      go_wp2_with fail
      refine (pick_any _ g _ _ H0.out.c (by omega) (by omega)).mono ?_
      rintro e1 w1 ⟨⟨x1, rfl, p1, q1⟩, k1, g1⟩
      have h1 := Lib.hid (H0.out.draw hlt k1 g1)
      obtain ⟨t1, u1, ok1, hup⟩ := UP.exist hp x1
      have hcall := Lib.hid fun w0 => unPower_any d x1 t1 u1 ok1 w0 hp p1 (by omega) hup
      have hi1 := up_I hup
      obtain ⟨t2, u2, ok2, hpm0⟩ := PM.exist d
      have hpm := Lib.hid fun w0 => specPellMinusFour_any d t2 u2 ok2 w0 hd hpm0
      have hi2 := pm_I hpm0
      clear k1 g1 hup hpm0 H0
      go_wp2_with fail
      refine (hcall.out _).mono ?_
      rintro e2 w2 ⟨rfl, hB2⟩
      have h2 := Lib.hid (h1.out.below hB2)
      clear hB2 h1 hcall
      obtain ⟨w3, e3, h3, y3⟩ : ∃ w3, w2.alloc (.cells #[.int .i64 t1, .int .i64 u1] 27) = w3 ∧ Hid (SB w w3 g (m + 2) 2 0) ∧ Hid (Blk w2.heap.size 27 #[.int .i64 t1, .int .i64 u1] w3) := ⟨_, rfl, Lib.hid (h2.out.alloc _), Lib.hid (Blk.new _ _ _)⟩
      have hyx : w.heap.size + 1 < w2.heap.size := h2.out.x.lt
      obtain ⟨yb, hyb⟩ : ∃ yb, w2.heap.size = yb := ⟨_, rfl⟩
      rw [hyb] at y3 hyx
      clear h2
      cases ok1 with
      | false =>
        go_wp2_with fail
        try rw [e3]
        have h4 := h3
        clear h3 y3 e3
        refine (hpm.out _).mono ?_
        rintro e5 w5 ⟨rfl, hB5⟩
        have h5 := Lib.hid (h4.out.below hB5)
        clear hB5 h4
        obtain ⟨w6, e6, h6, z6⟩ : ∃ w6, w5.alloc (.cells #[.int .i64 t2, .int .i64 u2] 27) = w6 ∧ Hid (SB w w6 g (m + 2) 2 0) ∧ Hid (Blk w5.heap.size 27 #[.int .i64 t2, .int .i64 u2] w6) := ⟨_, rfl, Lib.hid (h5.out.alloc _), Lib.hid (Blk.new _ _ _)⟩
        have hzx : w.heap.size + 1 < w5.heap.size := h5.out.x.lt
        obtain ⟨zb, hzb⟩ : ∃ zb, w5.heap.size = zb := ⟨_, rfl⟩
        rw [hzb] at z6 hzx
        clear h5
        cases ok2 with
        | false =>
          go_wp2_with fail
          try rw [e6]
          go_meet
          case rel => exact ⟨_, _, Lib.hid (h6.out.mono (by omega))⟩
        | true =>
          go_wp2_with fail
          try rw [e6]
          refine (one_any _ g _ _ h6.out.c (by omega) (by omega)).mono ?_
          rintro e7 w7 ⟨⟨x7, rfl, -, -⟩, k7, g7⟩
          have h7 := Lib.hid (h6.out.draw hlt k7 g7)
          have z7 := Lib.hid (z6.out.grown g7 (fun e => by cases e; omega))
          clear k7 g7 h6 z6 e6
          cases x7 with
          | false =>
            go_wp2_with fail
            go_meet
            case rel => exact ⟨_, _, Lib.hid (h7.out.mono (by omega))⟩
          | true =>
            have c7 := z7.out.cell
            have l7 := z7.out.lt
            have c8 := h7.out.x.cell
            have f8 := h7.out.x.froz
            have l8 := h7.out.x.lt
            go_wp2_with fail
            go_meet
            case rel => exact ⟨_, _, Lib.hid ((h7.out.set hlt t2 u2 hi2).mono (by omega))⟩
      | true =>
        have c3 := y3.out.cell
        have l3 := y3.out.lt
        have c4 := h3.out.x.cell
        have f4 := h3.out.x.froz
        have l4 := h3.out.x.lt
        go_wp2_with fail
        try rw [e3]
        have h4 := Lib.hid (h3.out.set hlt t1 u1 hi1)
        clear h3 y3 e3 c3 l3 c4 f4 l4
        refine (hpm.out _).mono ?_
        rintro e5 w5 ⟨rfl, hB5⟩
        have h5 := Lib.hid (h4.out.below hB5)
        clear hB5 h4
        obtain ⟨w6, e6, h6, z6⟩ : ∃ w6, w5.alloc (.cells #[.int .i64 t2, .int .i64 u2] 27) = w6 ∧ Hid (SB w w6 g (m + 2) t1 u1) ∧ Hid (Blk w5.heap.size 27 #[.int .i64 t2, .int .i64 u2] w6) := ⟨_, rfl, Lib.hid (h5.out.alloc _), Lib.hid (Blk.new _ _ _)⟩
        have hzx : w.heap.size + 1 < w5.heap.size := h5.out.x.lt
        obtain ⟨zb, hzb⟩ : ∃ zb, w5.heap.size = zb := ⟨_, rfl⟩
        rw [hzb] at z6 hzx
        clear h5
        cases ok2 with
        | false =>
          go_wp2_with fail
          try rw [e6]
          go_meet
          case rel => exact ⟨_, _, Lib.hid (h6.out.mono (by omega))⟩
        | true =>
          go_wp2_with fail
          try rw [e6]
          refine (one_any _ g _ _ h6.out.c (by omega) (by omega)).mono ?_
          rintro e7 w7 ⟨⟨x7, rfl, -, -⟩, k7, g7⟩
          have h7 := Lib.hid (h6.out.draw hlt k7 g7)
          have z7 := Lib.hid (z6.out.grown g7 (fun e => by cases e; omega))
          clear k7 g7 h6 z6 e6
          cases x7 with
          | false =>
            go_wp2_with fail
            go_meet
            case rel => exact ⟨_, _, Lib.hid (h7.out.mono (by omega))⟩
          | true =>
            have c7 := z7.out.cell
            have l7 := z7.out.lt
            have c8 := h7.out.x.cell
            have f8 := h7.out.x.froz
            have l8 := h7.out.x.lt
            go_wp2_with fail
            go_meet
            case rel => exact ⟨_, _, Lib.hid ((h7.out.set hlt t2 u2 hi2).mono (by omega))⟩
  case rest =>
  obtain ⟨t, u, hK⟩ := hcut
  go_upto_if 34 with fail
  refine (one_any _ g _ _ hK.out.c (by omega) (by omega)).mono ?_
  rintro e1 w1 ⟨⟨x1, rfl, -, -⟩, k1, g1⟩
  have h1 := Lib.hid (hK.out.draw hlt k1 g1)
  clear k1 g1 hK
  go_upto_if 34 with fail
  go_cut [] from 6 (fun wx => ∃ t u, Hid (SB w wx g (m + 6) t u))
  case first =>
    cases x1 with
    | false =>
      go_wp2_with fail
      go_meet
      case rel => exact ⟨_, _, Lib.hid (h1.out.mono (by omega))⟩
    | true =>
      have c1 := h1.out.x.cell
      have f1 := h1.out.x.froz
      have l1 := h1.out.x.lt
      go_wp2_with fail
      go_meet
      case rel => exact ⟨_, _, Lib.hid ((h1.out.sete hlt _).mono (by omega))⟩
  case rest =>
  clear h1
  obtain ⟨t, u, hK⟩ := hcut
  go_upto_if 40 with fail
  refine (one_any _ g _ _ hK.out.c (by omega) (by omega)).mono ?_
  rintro e1 w1 ⟨⟨x1, rfl, -, -⟩, k1, g1⟩
  have h1 := Lib.hid (hK.out.draw hlt k1 g1)
  clear k1 g1 hK
  go_upto_if 40 with fail
  go_cut [] from 6 (fun wx => ∃ t u, Hid (SB w wx g (m + 8) t u))
  case first =>
    cases x1 with
    | false =>
      go_wp2_with fail
      go_meet
      case rel => exact ⟨_, _, Lib.hid (h1.out.mono (by omega))⟩
    | true =>
      have c1 := h1.out.x.cell
      have f1 := h1.out.x.froz
      have l1 := h1.out.x.lt
      go_wp2_with fail
      go_meet
      case rel => exact ⟨_, _, Lib.hid ((h1.out.set hlt _ _ (wrap_I _)).mono (by omega))⟩
  case rest =>
  clear h1
  obtain ⟨t, u, hK⟩ := hcut
  go_upto_if 49 with fail
  refine (one_any _ g _ _ hK.out.c (by omega) (by omega)).mono ?_
  rintro e1 w1 ⟨⟨x1, rfl, -, -⟩, k1, g1⟩
  have h1 := Lib.hid (hK.out.draw hlt k1 g1)
  clear k1 g1 hK
  go_upto_if 49 with fail
  go_cut [] from 6 (fun wx => ∃ t u, Hid (SB w wx g (m + 12) t u))
  case first =>
    cases x1 with
    | false =>
      go_wp2_with fail
      go_meet
      case rel => exact ⟨_, _, Lib.hid (h1.out.mono (by omega))⟩
    | true =>
      have c1 := h1.out.x.cell
      have f1 := h1.out.x.froz
      have l1 := h1.out.x.lt
      have ng : some (w.heap.size + 1) ≠ some g := fun e => by cases e; omega
      go_wp2_with fail
      refine region_mixG g 6 [0, 1, 2] [(false, 3), (false, 4), (true, 5)] (by kernel_rfl) (by kernel_rfl) (by kernel_rfl) ?_
      apply Exists.intro
      refine ⟨fun w0 g0 => ?_, ?_⟩
      · obtain ⟨hC0, hF0⟩ := gcell g0 hlt
        have hS0 := g0.size
        (try simp at hS0)
        (try have hS0_w : w.heap.size < w0.heap.size := by omega)
        (try have hM0_1 : w.heap.size < w0.heap.size + 1 := by omega)
        (try have hS0_v : w.heap.size + 1 < w0.heap.size := by omega)
        (try have hS0_u : w.heap.size + 1 + 1 < w0.heap.size := by omega)
        (try have hS0_t : w.heap.size + 1 + 1 + 1 < w0.heap.size := by omega)
        have x0 := h1.out.x.grown g0 ng; have l0 := x0.lt; have v0 := x0.cell
        simp only [List.filterMap_cons, List.filterMap_nil, List.getElem?_cons_zero, List.getElem?_cons_succ]
        show wpQuiet _ _ _ _ [_, _, _] _
        repeat (first | go_big_quiet_skip | (go_big_quiet_want; go_big_quiet_op; first | go_big_quiet_on | (apply Exists.intro; refine ⟨fun _ => ?_, ?_⟩; (focus (fail)); go_big_quiet_on)))
        refine wpQuiet_nil ?_
        rfl
      intro W hW hWz
      simp only [List.filterMap_cons, List.filterMap_nil, List.getElem?_cons_zero, List.getElem?_cons_succ, Option.map_some, List.drop_succ_cons, List.drop_zero]
      show effWG _ _ _ _ [(false, _), (false, _), (true, _)] _ _
      refine effG_of fun wa hBa => ?_
      go_wp2_with fail
      refine effR_of rfl (gA (grown_id _ _)) ?_
      refine effG_of fun wb hBb => ?_
      go_wp2_with fail
      have h2 := Lib.hid ((((h1.out.below hW).below hBa).alloc _).below hBb)
      have hls := (lst_new wa #[.int .i64 1, .int .i64 (-1), .int .i64 100000000, .int .i64 1099511627776] _ 4 I64 rfl (by simp [I64])).keep (grown_of hBb (some g)) (fun e => by cases e; have := hBa.size; omega)
      refine (among_any _ g wa.heap.size 4 4 I64 _ h2.out.c (by omega) (by omega) hls (by have := hBa.size; omega)).mono ?_
      rintro e3 w3 ⟨⟨x3, rfl, p3, -⟩, k3, g3⟩
      have h3 := Lib.hid (h2.out.draw hlt k3 g3)
      clear h2 hls k3 h1 c1 f1 l1
      go_wp2
      refine effR_of rfl g3 ?_
      refine effQuietG (by kernel_rfl) ?_
      apply Exists.intro
      refine ⟨fun w0 g0 => ?_, ?_⟩
      · repeat (first | go_big_quiet_skip | (go_big_quiet_want; go_big_quiet_op; first | go_big_quiet_on | (apply Exists.intro; refine ⟨fun _ => ?_, ?_⟩; (focus (fail)); go_big_quiet_on)))
        refine wpQuiet_nil ?_
        rfl
      intro w8 hV
      have h8 := Lib.hid (h3.out.below (past_below hV))
      clear hV h3 g3 hW hWz hBa hBb
      have c1 := h8.out.x.cell
      have f1 := h8.out.x.froz
      have l1 := h8.out.x.lt
      go_wp2_with fail
      go_meet
      case rel => exact ⟨_, _, Lib.hid ((h8.out.set0 hlt _ (wrap_I _)).mono (by omega))⟩
  case rest =>
  clear h1
  obtain ⟨t, u, hK⟩ := hcut
  have cx := hK.out.x.cell
  have lx := hK.out.x.lt
  have cr := hK.out.r.cell
  have fr := hK.out.r.froz
  have lr := hK.out.r.lt
  have kk := hK.out.c
  have ss := hK.out.s
  have ii := hK.out.i
  clear hK
  go_wp2_with fail
  refine bodyPost_ret (v := .agg #[.int .i64 t, .int .i64 u]) (by go_light; simp [results, Try.results59, go_sem, *]) rfl ⟨⟨(t, u), rfl, ii, trivial⟩, ?_, ?_⟩
  · repeat (first | with_reducible refine kA ?_ | ((with_reducible refine kS ?_ ?_); focus omega))
    exact Cur.mono (by assumption) (by omega)
  · repeat (first | with_reducible assumption | with_reducible exact grown_id _ _ | with_reducible refine gA ?_ | ((with_reducible refine gS ?_ ?_); focus (first | omega | (simp <;> omega))) | with_reducible refine gT (by assumption) ?_)
end Go.Proofs.Ytemnkfigjpphgaa
