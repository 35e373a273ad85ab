/-
  The reference's draw of an ideal.
-/
import Derived.Test.YtahhbjjnbdggjaaDrk
namespace Go.Proofs.Ytahhbjjnbdggjaa
open Go.RowKit
attribute [local simp, local go_sem] past_cell past_frozen past_tape
theorem MF.i {f : Int × Int × Int} (h : MF f) : I64 f.1 ∧ I64 f.2.1 ∧ I64 f.2.2 := by
  obtain ⟨h1, h2, ⟨h3, h4⟩, h5, h6⟩ := h
  exact ⟨⟨by omega, by omega⟩, ⟨by omega, by omega⟩, ⟨by omega, by omega⟩⟩
/-- Three numbers in a block of one's own. -/
def Tri (b : Nat) (T : TypeId) (x y z : Int) (w : World) : Prop := w.heap[b]? = some (.cells #[.int .i64 x, .int .i64 y, .int .i64 z] T)
theorem heap_lt {w : World} {b : Nat} {o : Obj} (h : w.heap[b]? = some o) : b < w.heap.size := by
  rcases Nat.lt_or_ge b w.heap.size with h1 | h1
  · exact h1
  · rw [Array.getElem?_eq_none h1] at h; cases h
theorem Tri.lt {b : Nat} {T : TypeId} {x y z : Int} {w : World} (h : Tri b T x y z w) : b < w.heap.size := heap_lt h
theorem Tri.below {b : Nat} {T : TypeId} {x y z : Int} {w w' : World} (h : Tri b T x y z w) (hb : Below w.heap.size w w') : Tri b T x y z w' := (hb.block b h.lt).trans h
theorem Tri.grown {b g : Nat} {T : TypeId} {x y z : Int} {w w' : World} (h : Tri b T x y z w) (hg : w.grownBy w' (some g)) (hb : g ≠ b) : Tri b T x y z w' := (hg.block b h.lt (fun e => hb (by cases e; rfl))).trans h
theorem Tri.at_ {b : Nat} {T : TypeId} {x y z : Int} {w : World} (h : Tri b T x y z w) : w.cell? ⟨b, 0, none⟩ = some (.int .i64 x) ∧ w.cell? ⟨b, 1, none⟩ = some (.int .i64 y) ∧ w.cell? ⟨b, 2, none⟩ = some (.int .i64 z) ∧ ∀ o, w.frozen? ⟨b, o, none⟩ = false := by
  obtain ⟨c, f⟩ := cells_at h
  exact ⟨by rw [c]; rfl, by rw [c]; rfl, by rw [c]; rfl, f⟩
theorem Tri.new (w : World) (T : TypeId) (x y z : Int) : Tri w.heap.size T x y z (w.alloc (.cells #[.int .i64 x, .int .i64 y, .int .i64 z] T)) := heap_alloc _ _
theorem Tri.set {b : Nat} {T : TypeId} {x y z : Int} {w : World} (h : Tri b T x y z w) (x' y' z' : Int) :
    ∃ w4, ((w.setCell ⟨b, 0, none⟩ (.int .i64 x')).setCell ⟨b, 1, none⟩ (.int .i64 y')).setCell ⟨b, 2, none⟩ (.int .i64 z') = w4 ∧ Tri b T x' y' z' w4 ∧ w4.heap.size = w.heap.size ∧ w.grownBy w4 (some b) := set3 _ _ _ h
set_option maxRecDepth 100000 in
set_option maxHeartbeats 16000000 in
theorem ideal_any (m g : Nat) (d : Int) (w : World) (h : Cur m g w) (hm : m ≤ 700000) (hd : -2000 ≤ d ∧ d ≤ -3 ∧ d % 4 < 2) :
    Calls Try.prog 72 #[.pointer (some ⟨g, 0, none⟩), .int .i64 d] w fun e w' => (∃ x : Int × Int × Int, e = .returned (.agg #[.int .i64 x.1, .int .i64 x.2.1, .int .i64 x.2.2]) ∧ (I64 x.1 ∧ I64 x.2.1 ∧ I64 x.2.2) ∧ True) ∧ Cur (m + 200) g w' ∧ w.grownBy w' (some g) := by
  have hlt := h.lt
  have k0 : Cur m g (w.alloc (.cells #[.int .i64 0, .int .i64 0, .int .i64 0] 28)) := kA h
  have r0 : Tri w.heap.size 28 0 0 0 (w.alloc (.cells #[.int .i64 0, .int .i64 0, .int .i64 0] 28)) := Tri.new _ _ _ _ _
  have g0 : w.grownBy (w.alloc (.cells #[.int .i64 0, .int .i64 0, .int .i64 0] 28)) (some g) := gA (grown_id _ _)
  go_enter Try.func72, Try.ntmps72
  go_wp2_with fail
  refine (reduced_any m g d _ k0 (by omega) hd).mono ?_
  rintro e1 w1 ⟨⟨⟨a, b, c⟩, rfl, p1, -⟩, k1, g1⟩
  have r1 := r0.grown g1 (by omega)
  have s1 := gT g1 g0
  clear g0 g1 k0 r0
  go_wp2_with fail
  refine (moved_any _ g d a b c _ k1 (by omega) hd.2.1 p1).mono ?_
  rintro e2 w2 ⟨⟨⟨a2, b2, c2⟩, rfl, p2, -⟩, k2, g2⟩
  have r2 := r1.grown g2 (by omega)
  have s2 := gT g2 s1
  clear g2 s1 k1 r1
  have sz2 := s2.size
  obtain ⟨w3, e3, f3, r3, k3, s3⟩ : ∃ w3, w2.alloc (.cells #[.int .i64 a2, .int .i64 b2, .int .i64 c2] 25) = w3 ∧ Tri w2.heap.size 25 a2 b2 c2 w3 ∧ Tri w.heap.size 28 0 0 0 w3 ∧ Cur (m + 10 + 40) g w3 ∧ w.grownBy w3 (some g) :=
    ⟨_, rfl, Tri.new _ _ _ _ _, r2.below (below_alloc _ _), kA k2, gA s2⟩
  have hb3 := r2.lt
  obtain ⟨bf, hbf⟩ : ∃ bf, w2.heap.size = bf := ⟨_, rfl⟩
  have hfl := f3.lt
  obtain ⟨q30, q31, q32, q33⟩ := f3.at_
  simp only [MF] at p2
  obtain ⟨p21, p22, p23, p24⟩ := p2
  have hl3 := r3.lt
  rw [hbf] at f3 hfl q30 q31 q32 q33 hb3
  simp only [Bd] at p23
  clear r2 k2 s2 h
  by_cases ha : 300 < a2
  · have ha' : decide (300 < a2) = true := decide_eq_true ha
    clear ha
    go_wp2_with fail
    try rw [e3]
    refine (reduced_any _ g d _ k3 (by omega) hd).mono ?_
    rintro e4 w4 ⟨⟨⟨a4, b4, c4⟩, rfl, p4, -⟩, k4, g4⟩
    have f4 := f3.grown g4 (by omega)
    have r4 := r3.grown g4 (by omega)
    have s4 := gT g4 s3
    obtain ⟨wE, eE, fE, zE, gE⟩ := f4.set a4 b4 c4
    have hbl1 := f4.lt
    have kE : Cur _ g wE := k4.apart gE (fun k e => by cases e; omega)
    have rE := r4.grown gE (by omega)
    have sE := gO (by omega) gE s4
    obtain ⟨h11, h12, h13, h14⟩ := f4.at_
    have hl6 := rE.lt
    clear gE g4 r4 s4 k4 f4 k3 f3 r3 s3 q30 q31 q32 q33 p21 p22 p23 p24 e3 hfl hl3
    obtain ⟨p21, p22, p23, p24, -, -, -⟩ := p4
    simp only at p21 p22 p23 p24
    have hw2 : wrap64 (2 * a4) = 2 * a4 := by unfold wrap64; omega
    have hb2i : I64 b4 := ⟨by omega, by omega⟩
    have hmz0 := Int.emod_nonneg b4 (show 2 * a4 ≠ 0 by omega)
    have hmz1 := Int.emod_lt_of_pos b4 (show 0 < 2 * a4 by omega)
    go_wp2_with fail
    try rw [eE]
    refine region_mixF g 17 16 [0, 3, 7, 8, 9, 10, 11, 12, 13] [(false, 1), (true, 2), (false, 4), (true, 5), (true, 6), (true, 14), (true, 15)] _ (.cells #[.int .i64 0, .int .i64 0, .int .i64 0] 28) (by kernel_rfl) (by kernel_rfl) (by first | exact hlt | omega | (simp; omega)) rfl rfl (fun _ _ => by simp [go_sem]) (by kernel_rfl) ?_
    apply Exists.intro
    refine ⟨fun w0 g0 => ?_, ?_⟩
    · obtain ⟨hC0, hF0⟩ := gcell g0 hlt
      have hS0 := g0.size
      (try simp at hS0)
      (try have hS0_w : w.heap.size < w0.heap.size := by omega)
      (try have hM0_1 : w.heap.size < w0.heap.size + 1 := by omega)
      (try have hS0_v : w.heap.size + 1 < w0.heap.size := by omega)
      (try have hS0_u : w.heap.size + 1 + 1 < w0.heap.size := by omega)
      (try have hS0_t : w.heap.size + 1 + 1 + 1 < w0.heap.size := by omega)
      have f0 := fE.grown g0 (by omega); have l0 := f0.lt; obtain ⟨v00, v01, v02, -⟩ := f0.at_; clear hC0 hF0
      simp only [List.filterMap_cons, List.filterMap_nil, List.getElem?_cons_zero, List.getElem?_cons_succ]
      show wpQuiet _ _ _ _ [_, _, _, _, _, _, _, _, _] _
      repeat (first | go_big_quiet_skip | (go_big_quiet_want; go_big_quiet_op; first | go_big_quiet_on | (apply Exists.intro; refine ⟨fun _ => ?_, ?_⟩; (focus (fail)); go_big_quiet_on)))
      refine wpQuiet_nil ?_
      rfl
    intro W hW hWz
    simp only [List.filterMap_cons, List.filterMap_nil, List.getElem?_cons_zero, List.getElem?_cons_succ, Option.map_some, List.drop_succ_cons, List.drop_zero]
    show effWG _ _ _ _ [(false, _), (true, _), (false, _), (true, _), (true, _), (true, _), (true, _)] _ _
    refine effG_of fun wa hBa => ?_
    go_wp2_with fail
    refine (pick_any _ g _ _ (kB hBa (kB hW kE)) (by omega) (by omega)).mono ?_
    rintro e5 w5 ⟨⟨x5, rfl, p5, q5⟩, k5, g5⟩
    go_wp2
    refine effR_of rfl g5 ?_
    refine effQuietG (by kernel_rfl) ?_
    apply Exists.intro
    refine ⟨fun w0 g0 => ?_, ?_⟩
    · repeat (first | go_big_quiet_skip | (go_big_quiet_want; go_big_quiet_op; first | go_big_quiet_on | (apply Exists.intro; refine ⟨fun _ => ?_, ?_⟩; (focus (fail)); go_big_quiet_on)))
      refine wpQuiet_nil ?_
      rfl
    refine effG_of fun wc hBc => ?_
    go_wp2_with fail
    refine (pick_any _ g _ _ (kB hBc k5) (by omega) (by omega)).mono ?_
    rintro e6 w6 ⟨⟨x6, rfl, p6, q6⟩, k6, g6⟩
    go_wp2
    refine effR_of rfl g6 ?_
    refine effQuietG (by kernel_rfl) ?_
    apply Exists.intro
    refine ⟨fun w0 g0 => ?_, ?_⟩
    · repeat (first | go_big_quiet_skip | (go_big_quiet_want; go_big_quiet_op; first | go_big_quiet_on | (apply Exists.intro; refine ⟨fun _ => ?_, ?_⟩; (focus (fail)); go_big_quiet_on)))
      refine wpQuiet_nil ?_
      rfl
    refine effQuietG (by kernel_rfl) ?_
    apply Exists.intro
    refine ⟨fun w0 g0 => ?_, ?_⟩
    · repeat (first | go_big_quiet_skip | (go_big_quiet_want; go_big_quiet_op; first | go_big_quiet_on | (apply Exists.intro; refine ⟨fun _ => ?_, ?_⟩; (focus (fail)); go_big_quiet_on)))
      refine wpQuiet_nil ?_
      rfl
    refine effQuietG (by kernel_rfl) ?_
    apply Exists.intro
    refine ⟨fun w0 g0 => ?_, ?_⟩
    · repeat (first | go_big_quiet_skip | (go_big_quiet_want; go_big_quiet_op; first | go_big_quiet_on | (apply Exists.intro; refine ⟨fun _ => ?_, ?_⟩; (focus ((go_at_call 50; exact past_same (nuMod_any b4 (2 * a4) _ hb2i (by omega) (by omega))))); go_big_quiet_on)))
      refine wpQuiet_nil ?_
      rfl
    refine effQuietG (by kernel_rfl) ?_
    apply Exists.intro
    refine ⟨fun w0 g0 => ?_, ?_⟩
    · repeat (first | go_big_quiet_skip | (go_big_quiet_want; go_big_quiet_op; first | go_big_quiet_on | (apply Exists.intro; refine ⟨fun _ => ?_, ?_⟩; (focus (fail)); go_big_quiet_on)))
      refine wpQuiet_nil ?_
      rfl
    intro w7 bz hV hb1 hb2 hb3
    have k7 := kB (past_below hV) k6
    have g7 := gB (past_below hV) (gT g6 (gB hBc (gT g5 (gB hBa (gB hW (grown_id _ (some g)))))))
    have f7 := fE.grown g7 (by omega)
    have r7 := rE.grown g7 (by omega)
    have s7 := gT g7 sE
    have l7 := f7.lt
    have z7 := s7.size
    obtain ⟨w8, e8, v8, z8, g8⟩ := Tri.set (x := 0) (y := 0) (z := 0) hb3 (wrap64 (1 + wrap64 (x5 / 2 * x6))) a4 (b4 % (2 * a4))
    have k8 : Cur _ g w8 := k7.apart g8 (fun k e => by cases e; omega)
    have f8 := f7.grown g8 (by omega)
    have r8 := r7.grown g8 (by omega)
    have s8 := gO (by omega) g8 s7
    obtain ⟨zc, zf⟩ := cells_at hb3
    clear hV hW hWz g5 g6 hBa hBc g7 k5 k6 k7 r7 s7 kE rE sE
    obtain ⟨S, hS⟩ : ∃ S, wrap64 (1 + wrap64 (x5 / 2 * x6)) = S := ⟨_, rfl⟩
    have hSi : I64 S := by rw [← hS]; exact wrap64_I _
    obtain ⟨M, hM⟩ : ∃ M, b4 % (2 * a4) = M := ⟨_, rfl⟩
    rw [hS, hM] at v8
    rw [hM] at hmz0 hmz1
    have hAi : I64 a4 := ⟨by omega, by omega⟩
    have hMi : I64 M := ⟨by omega, by omega⟩
    go_wp2_with fail
    try simp only [hS, hM] at e8
    try simp only [hS, hM]
    try rw [e8]
    refine (one_any _ g _ _ k8 (by omega) (by omega)).mono ?_
    rintro e9 w9 ⟨⟨x9, rfl, -, -⟩, kz, g9⟩
    have f9 := f8.grown g9 (by omega)
    have rz := r8.grown g9 (by omega)
    have vz := v8.grown g9 (by omega)
    have sz := gT g9 s8
    clear f8 r8 v8 s8 k8 g8 g9 e8 zc zf hb3
    cases x9
    · go_wp2_with fail
      skip
      refine (one_any _ g _ _ kz (by omega) (by omega)).mono ?_
      rintro eo wo ⟨⟨xo, rfl, -, -⟩, ko, go⟩
      have vo := vz.grown go (by omega)
      have ro := rz.grown go (by omega)
      have so := gT go sz
      have vl := vo.lt
      have rl := ro.lt
      obtain ⟨y0, y1, y2, y3⟩ := vo.at_
      obtain ⟨n0, n1, n2, n3⟩ := ro.at_
      clear go vz rz sz kz
      cases xo
      · go_wp2_with fail
        refine bodyPost_ret (v := .agg #[.int .i64 S, .int .i64 a4, .int .i64 M]) (by go_light; simp [results, Try.results72, go_sem, *]) rfl ⟨⟨(S, a4, M), rfl, ⟨hSi, hAi, hMi⟩, trivial⟩, ?_, ?_⟩
        · repeat (first | with_reducible refine kA ?_ | ((with_reducible refine kS ?_ ?_); focus omega))
          exact Cur.mono (by assumption) (by omega)
        · repeat (first | with_reducible assumption | with_reducible exact grown_id _ _ | with_reducible refine gA ?_ | ((with_reducible refine gS ?_ ?_); focus (first | omega | (simp <;> omega))) | with_reducible refine gT (by assumption) ?_)
      · go_wp2_with fail
        refine (among_any _ g wo.heap.size 4 4 I64 _ (kA ko) (by omega) (by omega) (lst_new _ _ _ _ _ rfl ?_) (by have := ko.lt; omega)).mono ?_
        · simp [I64]
        rintro eq wq ⟨⟨xq, rfl, pq, -⟩, kq, gq⟩
        have vq := (vo.below (below_alloc _ _)).grown gq (by omega)
        have rq := (ro.below (below_alloc _ _)).grown gq (by omega)
        have sq := gT gq (gA so)
        have vl2 := vq.lt
        have rl2 := rq.lt
        clear y0 y1 y2 y3 n0 n1 n2 n3 gq ko vo ro so vl rl
        obtain ⟨y0, y1, y2, y3⟩ := vq.at_
        obtain ⟨n0, n1, n2, n3⟩ := rq.at_
        have hbz1 : ¬ w.heap.size = bz := by omega
        have hbz2 : ¬ bz = w.heap.size := by omega
        go_wp2_with fail
        refine bodyPost_ret (v := .agg #[.int .i64 xq, .int .i64 a4, .int .i64 M]) (by go_light; simp [results, Try.results72, go_sem, *]) rfl ⟨⟨(xq, a4, M), rfl, ⟨pq, hAi, hMi⟩, trivial⟩, ?_, ?_⟩
        · repeat (first | with_reducible refine kA ?_ | ((with_reducible refine kS ?_ ?_); focus omega))
          exact Cur.mono (by assumption) (by omega)
        · repeat (first | with_reducible assumption | with_reducible exact grown_id _ _ | with_reducible refine gA ?_ | ((with_reducible refine gS ?_ ?_); focus (first | omega | (simp <;> omega))) | with_reducible refine gT (by assumption) ?_)
    · go_wp2_with fail
      refine (reAll_any d _ hd.1 hd.2.1 hd.2.2).mono ?_
      rintro ex wx ⟨vx, L, rfl, hrx, hL1, hL2, ⟨fx, hfx, -⟩, hBx⟩
      have kx := kB hBx kz
      have f10 := f9.below hBx
      have r10 := rz.below hBx
      have v10 := vz.below hBx
      have s10 := gB hBx sz
      have z9 := sz.size
      obtain ⟨n, hn⟩ : ∃ n, L.length = n := ⟨_, rfl⟩
      have hn0 : 0 < n := by rw [← hn]; exact List.length_pos_of_mem hfx
      obtain ⟨ax, cx, hvx, _, _, hsx⟩ := hrx.sees c3_len
      rw [hn] at hvx hL1
      subst hvx
      have hn0' : decide ((0 : Int) < (n : Int)) = true := decide_eq_true (by omega)
      clear hBx f9 rz vz sz kz hfx
      go_wp2_with fail
      refine (pick_any _ g _ _ kx (by omega) (by omega)).mono ?_
      rintro ey wy ⟨⟨xy, rfl, py, qy⟩, ky, gy⟩
      obtain ⟨hCy, hFy⟩ := gcell gy hlt
      have f11 := f10.grown gy (by omega)
      have r11 := r10.grown gy (by omega)
      have v11 := v10.grown gy (by omega)
      have s11 := gT gy s10
      obtain ⟨i, rfl⟩ : ∃ i : Nat, xy = i := ⟨xy.toNat, by omega⟩
      have hi : i < n := by omega
      have hi' : (i : Int) < (n : Int) := by omega
      obtain ⟨⟨a5, b5, c5⟩, hx⟩ := get_some hn hi
      have hPF := hL2 _ (List.mem_of_getElem? hx)
      obtain ⟨bl, rfl, hc0, hc1, hc2⟩ : ∃ bl, ax = some ⟨bl, 0, none⟩ ∧ wy.cell? ⟨bl, i * 3, none⟩ = some (.int .i64 a5) ∧ wy.cell? ⟨bl, i * 3 + 1, none⟩ = some (.int .i64 b5) ∧ wy.cell? ⟨bl, i * 3 + 2, none⟩ = some (.int .i64 c5) := by
        rcases hsx with h0 | ⟨bl, rfl, hb1, hb2, hcell, _⟩
        · omega
        · have e := fun o => hCy bl o (by omega) hb2
          exact ⟨bl, rfl, by rw [e]; simpa [c3] using hcell i _ hx 0 (by omega), by rw [e]; simpa [c3] using hcell i _ hx 1 (by omega), by rw [e]; simpa [c3] using hcell i _ hx 2 (by omega)⟩
      clear hsx hrx hCy hFy gy kx f10 r10 v10 s10 hL2 hx
      obtain ⟨w12, e12, f12, z12, g12⟩ := f11.set a5 b5 c5
      have hbl1 := f11.lt
      have k12 : Cur _ g w12 := ky.apart g12 (fun k e => by cases e; omega)
      have r12 := r11.grown g12 (by omega)
      have v12 := v11.grown g12 (by omega)
      have s12 := gO (by omega) g12 s11
      obtain ⟨h11, h12, h13, h14⟩ := f11.at_
      clear g12 r11 v11 s11 ky f11
      obtain ⟨p51, p52, p53, p54, -, -, -⟩ := hPF
      simp only at p51 p52 p53 p54
      have hw5 : wrap64 (2 * a5) = 2 * a5 := by unfold wrap64; omega
      have hb5 : I64 b5 := ⟨by omega, by omega⟩
      have hm50 := Int.emod_nonneg b5 (show 2 * a5 ≠ 0 by omega)
      have hm51 := Int.emod_lt_of_pos b5 (show 0 < 2 * a5 by omega)
      obtain ⟨d0, d1, d2, -⟩ := f12.at_
      have fl12 := f12.lt
      have vl12 := v12.lt
      go_wp2_with fail
      try rw [e12]
      clear e12 h11 h12 h13 h14 hc0 hc1 hc2
      refine wp_region_past_tail 9 (by kernel_rfl) (by kernel_rfl) ?_
      simp only [List.take_succ_cons, List.take_zero, List.drop_succ_cons, List.drop_zero]
      repeat (first | go_big_quiet_skip | (go_big_quiet_want; go_big_quiet_op; first | go_big_quiet_on | (apply Exists.intro; refine ⟨fun _ => ?_, ?_⟩; (focus ((go_at_call 50; exact past_same (nuMod_any b5 (2 * a5) _ hb5 (by omega) (by omega))))); go_big_quiet_on)))
      refine wpQuiet_nil ?_
      intro w1 hw'
      have hB1 := past_below hw'
      clear hw'
      obtain ⟨hC1, hF1⟩ := bcell hB1
      have hS1 := hB1.size
      (try simp at hS1)
      (try have hS1_w0 : w.heap.size < w1.heap.size := by omega)
      (try have hS1_w1 : w.heap.size + 1 < w1.heap.size := by omega)
      (try have hS1_w2 : w.heap.size + 1 + 1 < w1.heap.size := by omega)
      (try have hS1_w3 : w.heap.size + 1 + 1 + 1 < w1.heap.size := by omega)
      (try have hS1_w4 : w.heap.size + 1 + 1 + 1 + 1 < w1.heap.size := by omega)
      have v13 := v12.below hB1
      have r13 := r12.below hB1
      have k13 := kB hB1 k12
      have s13 := gB hB1 s12
      obtain ⟨M2, hM2⟩ : ∃ M, b5 % (2 * a5) = M := ⟨_, rfl⟩
      obtain ⟨w14, e14, vz, z14, g14⟩ := v13.set 1 a5 M2
      have hbl2 := v13.lt
      have kz : Cur _ g w14 := k13.apart g14 (fun k e => by cases e; omega)
      have rz := r13.grown g14 (by omega)
      have sz := gO (by omega) g14 s13
      obtain ⟨h11, h12, h13, h14⟩ := v13.at_
      rw [hM2] at hm50 hm51
      have hOi : I64 1 := by unfold I64; omega
      have hA5 : I64 a5 := ⟨by omega, by omega⟩
      have hM5 : I64 M2 := ⟨by omega, by omega⟩
      clear g14 r12 r13 v12 s12 s13 k12 k13 v13 f12 d0 d1 d2 hB1 hC1 hF1
      go_wp2_with fail
      try simp only [hM2]
      try rw [e14]
      refine (one_any _ g _ _ kz (by omega) (by omega)).mono ?_
      rintro eo wo ⟨⟨xo, rfl, -, -⟩, ko, go⟩
      have vo := vz.grown go (by omega)
      have ro := rz.grown go (by omega)
      have so := gT go sz
      have vl := vo.lt
      have rl := ro.lt
      obtain ⟨y0, y1, y2, y3⟩ := vo.at_
      obtain ⟨n0, n1, n2, n3⟩ := ro.at_
      clear go vz rz sz kz
      cases xo
      · go_wp2_with fail
        refine bodyPost_ret (v := .agg #[.int .i64 1, .int .i64 a5, .int .i64 M2]) (by go_light; simp [results, Try.results72, go_sem, *]) rfl ⟨⟨(1, a5, M2), rfl, ⟨hOi, hA5, hM5⟩, trivial⟩, ?_, ?_⟩
        · repeat (first | with_reducible refine kA ?_ | ((with_reducible refine kS ?_ ?_); focus omega))
          exact Cur.mono (by assumption) (by omega)
        · repeat (first | with_reducible assumption | with_reducible exact grown_id _ _ | with_reducible refine gA ?_ | ((with_reducible refine gS ?_ ?_); focus (first | omega | (simp <;> omega))) | with_reducible refine gT (by assumption) ?_)
      · go_wp2_with fail
        refine (among_any _ g wo.heap.size 4 4 I64 _ (kA ko) (by omega) (by omega) (lst_new _ _ _ _ _ rfl ?_) (by have := ko.lt; omega)).mono ?_
        · simp [I64]
        rintro eq wq ⟨⟨xq, rfl, pq, -⟩, kq, gq⟩
        have vq := (vo.below (below_alloc _ _)).grown gq (by omega)
        have rq := (ro.below (below_alloc _ _)).grown gq (by omega)
        have sq := gT gq (gA so)
        have vl2 := vq.lt
        have rl2 := rq.lt
        clear y0 y1 y2 y3 n0 n1 n2 n3 gq ko vo ro so vl rl
        obtain ⟨y0, y1, y2, y3⟩ := vq.at_
        obtain ⟨n0, n1, n2, n3⟩ := rq.at_
        have hbz1 : ¬ w.heap.size = bz := by omega
        have hbz2 : ¬ bz = w.heap.size := by omega
        go_wp2_with fail
        refine bodyPost_ret (v := .agg #[.int .i64 xq, .int .i64 a5, .int .i64 M2]) (by go_light; simp [results, Try.results72, go_sem, *]) rfl ⟨⟨(xq, a5, M2), rfl, ⟨pq, hA5, hM5⟩, trivial⟩, ?_, ?_⟩
        · repeat (first | with_reducible refine kA ?_ | ((with_reducible refine kS ?_ ?_); focus omega))
          exact Cur.mono (by assumption) (by omega)
        · repeat (first | with_reducible assumption | with_reducible exact grown_id _ _ | with_reducible refine gA ?_ | ((with_reducible refine gS ?_ ?_); focus (first | omega | (simp <;> omega))) | with_reducible refine gT (by assumption) ?_)
  · have ha' : decide (300 < a2) = false := decide_eq_false ha
    clear ha
    have hw2 : wrap64 (2 * a2) = 2 * a2 := by unfold wrap64; omega
    have hb2i : I64 b2 := ⟨by omega, by omega⟩
    have hmz0 := Int.emod_nonneg b2 (show 2 * a2 ≠ 0 by omega)
    have hmz1 := Int.emod_lt_of_pos b2 (show 0 < 2 * a2 by omega)
    go_wp2_with fail
    try rw [e3]
    refine region_mixF g 17 16 [0, 3, 7, 8, 9, 10, 11, 12, 13] [(false, 1), (true, 2), (false, 4), (true, 5), (true, 6), (true, 14), (true, 15)] _ (.cells #[.int .i64 0, .int .i64 0, .int .i64 0] 28) (by kernel_rfl) (by kernel_rfl) (by first | exact hlt | omega | (simp; omega)) rfl rfl (fun _ _ => by simp [go_sem]) (by kernel_rfl) ?_
    apply Exists.intro
    refine ⟨fun w0 g0 => ?_, ?_⟩
    · obtain ⟨hC0, hF0⟩ := gcell g0 hlt
      have hS0 := g0.size
      (try simp at hS0)
      (try have hS0_w : w.heap.size < w0.heap.size := by omega)
      (try have hM0_1 : w.heap.size < w0.heap.size + 1 := by omega)
      (try have hS0_v : w.heap.size + 1 < w0.heap.size := by omega)
      (try have hS0_u : w.heap.size + 1 + 1 < w0.heap.size := by omega)
      (try have hS0_t : w.heap.size + 1 + 1 + 1 < w0.heap.size := by omega)
      have f0 := f3.grown g0 (by omega); have l0 := f0.lt; obtain ⟨v00, v01, v02, -⟩ := f0.at_; clear hC0 hF0
      simp only [List.filterMap_cons, List.filterMap_nil, List.getElem?_cons_zero, List.getElem?_cons_succ]
      show wpQuiet _ _ _ _ [_, _, _, _, _, _, _, _, _] _
      repeat (first | go_big_quiet_skip | (go_big_quiet_want; go_big_quiet_op; first | go_big_quiet_on | (apply Exists.intro; refine ⟨fun _ => ?_, ?_⟩; (focus (fail)); go_big_quiet_on)))
      refine wpQuiet_nil ?_
      rfl
    intro W hW hWz
    simp only [List.filterMap_cons, List.filterMap_nil, List.getElem?_cons_zero, List.getElem?_cons_succ, Option.map_some, List.drop_succ_cons, List.drop_zero]
    show effWG _ _ _ _ [(false, _), (true, _), (false, _), (true, _), (true, _), (true, _), (true, _)] _ _
    refine effG_of fun wa hBa => ?_
    go_wp2_with fail
    refine (pick_any _ g _ _ (kB hBa (kB hW k3)) (by omega) (by omega)).mono ?_
    rintro e5 w5 ⟨⟨x5, rfl, p5, q5⟩, k5, g5⟩
    go_wp2
    refine effR_of rfl g5 ?_
    refine effQuietG (by kernel_rfl) ?_
    apply Exists.intro
    refine ⟨fun w0 g0 => ?_, ?_⟩
    · repeat (first | go_big_quiet_skip | (go_big_quiet_want; go_big_quiet_op; first | go_big_quiet_on | (apply Exists.intro; refine ⟨fun _ => ?_, ?_⟩; (focus (fail)); go_big_quiet_on)))
      refine wpQuiet_nil ?_
      rfl
    refine effG_of fun wc hBc => ?_
    go_wp2_with fail
    refine (pick_any _ g _ _ (kB hBc k5) (by omega) (by omega)).mono ?_
    rintro e6 w6 ⟨⟨x6, rfl, p6, q6⟩, k6, g6⟩
    go_wp2
    refine effR_of rfl g6 ?_
    refine effQuietG (by kernel_rfl) ?_
    apply Exists.intro
    refine ⟨fun w0 g0 => ?_, ?_⟩
    · repeat (first | go_big_quiet_skip | (go_big_quiet_want; go_big_quiet_op; first | go_big_quiet_on | (apply Exists.intro; refine ⟨fun _ => ?_, ?_⟩; (focus (fail)); go_big_quiet_on)))
      refine wpQuiet_nil ?_
      rfl
    refine effQuietG (by kernel_rfl) ?_
    apply Exists.intro
    refine ⟨fun w0 g0 => ?_, ?_⟩
    · repeat (first | go_big_quiet_skip | (go_big_quiet_want; go_big_quiet_op; first | go_big_quiet_on | (apply Exists.intro; refine ⟨fun _ => ?_, ?_⟩; (focus (fail)); go_big_quiet_on)))
      refine wpQuiet_nil ?_
      rfl
    refine effQuietG (by kernel_rfl) ?_
    apply Exists.intro
    refine ⟨fun w0 g0 => ?_, ?_⟩
    · repeat (first | go_big_quiet_skip | (go_big_quiet_want; go_big_quiet_op; first | go_big_quiet_on | (apply Exists.intro; refine ⟨fun _ => ?_, ?_⟩; (focus ((go_at_call 50; exact past_same (nuMod_any b2 (2 * a2) _ hb2i (by omega) (by omega))))); go_big_quiet_on)))
      refine wpQuiet_nil ?_
      rfl
    refine effQuietG (by kernel_rfl) ?_
    apply Exists.intro
    refine ⟨fun w0 g0 => ?_, ?_⟩
    · repeat (first | go_big_quiet_skip | (go_big_quiet_want; go_big_quiet_op; first | go_big_quiet_on | (apply Exists.intro; refine ⟨fun _ => ?_, ?_⟩; (focus (fail)); go_big_quiet_on)))
      refine wpQuiet_nil ?_
      rfl
    intro w7 bz hV hb1 hb2 hb3
    have k7 := kB (past_below hV) k6
    have g7 := gB (past_below hV) (gT g6 (gB hBc (gT g5 (gB hBa (gB hW (grown_id _ (some g)))))))
    have f7 := f3.grown g7 (by omega)
    have r7 := r3.grown g7 (by omega)
    have s7 := gT g7 s3
    have l7 := f7.lt
    have z7 := s7.size
    obtain ⟨w8, e8, v8, z8, g8⟩ := Tri.set (x := 0) (y := 0) (z := 0) hb3 (wrap64 (1 + wrap64 (x5 / 2 * x6))) a2 (b2 % (2 * a2))
    have k8 : Cur _ g w8 := k7.apart g8 (fun k e => by cases e; omega)
    have f8 := f7.grown g8 (by omega)
    have r8 := r7.grown g8 (by omega)
    have s8 := gO (by omega) g8 s7
    obtain ⟨zc, zf⟩ := cells_at hb3
    clear hV hW hWz g5 g6 hBa hBc g7 k5 k6 k7 r7 s7 k3 r3 s3
    obtain ⟨S, hS⟩ : ∃ S, wrap64 (1 + wrap64 (x5 / 2 * x6)) = S := ⟨_, rfl⟩
    have hSi : I64 S := by rw [← hS]; exact wrap64_I _
    obtain ⟨M, hM⟩ : ∃ M, b2 % (2 * a2) = M := ⟨_, rfl⟩
    rw [hS, hM] at v8
    rw [hM] at hmz0 hmz1
    have hAi : I64 a2 := ⟨by omega, by omega⟩
    have hMi : I64 M := ⟨by omega, by omega⟩
    go_wp2_with fail
    try simp only [hS, hM] at e8
    try simp only [hS, hM]
    try rw [e8]
    refine (one_any _ g _ _ k8 (by omega) (by omega)).mono ?_
    rintro e9 w9 ⟨⟨x9, rfl, -, -⟩, kz, g9⟩
    have f9 := f8.grown g9 (by omega)
    have rz := r8.grown g9 (by omega)
    have vz := v8.grown g9 (by omega)
    have sz := gT g9 s8
    clear f8 r8 v8 s8 k8 g8 g9 e8 zc zf hb3
    cases x9
    · go_wp2_with fail
      skip
      refine (one_any _ g _ _ kz (by omega) (by omega)).mono ?_
      rintro eo wo ⟨⟨xo, rfl, -, -⟩, ko, go⟩
      have vo := vz.grown go (by omega)
      have ro := rz.grown go (by omega)
      have so := gT go sz
      have vl := vo.lt
      have rl := ro.lt
      obtain ⟨y0, y1, y2, y3⟩ := vo.at_
      obtain ⟨n0, n1, n2, n3⟩ := ro.at_
      clear go vz rz sz kz
      cases xo
      · go_wp2_with fail
        refine bodyPost_ret (v := .agg #[.int .i64 S, .int .i64 a2, .int .i64 M]) (by go_light; simp [results, Try.results72, go_sem, *]) rfl ⟨⟨(S, a2, M), rfl, ⟨hSi, hAi, hMi⟩, trivial⟩, ?_, ?_⟩
        · repeat (first | with_reducible refine kA ?_ | ((with_reducible refine kS ?_ ?_); focus omega))
          exact Cur.mono (by assumption) (by omega)
        · repeat (first | with_reducible assumption | with_reducible exact grown_id _ _ | with_reducible refine gA ?_ | ((with_reducible refine gS ?_ ?_); focus (first | omega | (simp <;> omega))) | with_reducible refine gT (by assumption) ?_)
      · go_wp2_with fail
        refine (among_any _ g wo.heap.size 4 4 I64 _ (kA ko) (by omega) (by omega) (lst_new _ _ _ _ _ rfl ?_) (by have := ko.lt; omega)).mono ?_
        · simp [I64]
        rintro eq wq ⟨⟨xq, rfl, pq, -⟩, kq, gq⟩
        have vq := (vo.below (below_alloc _ _)).grown gq (by omega)
        have rq := (ro.below (below_alloc _ _)).grown gq (by omega)
        have sq := gT gq (gA so)
        have vl2 := vq.lt
        have rl2 := rq.lt
        clear y0 y1 y2 y3 n0 n1 n2 n3 gq ko vo ro so vl rl
        obtain ⟨y0, y1, y2, y3⟩ := vq.at_
        obtain ⟨n0, n1, n2, n3⟩ := rq.at_
        have hbz1 : ¬ w.heap.size = bz := by omega
        have hbz2 : ¬ bz = w.heap.size := by omega
        go_wp2_with fail
        refine bodyPost_ret (v := .agg #[.int .i64 xq, .int .i64 a2, .int .i64 M]) (by go_light; simp [results, Try.results72, go_sem, *]) rfl ⟨⟨(xq, a2, M), rfl, ⟨pq, hAi, hMi⟩, trivial⟩, ?_, ?_⟩
        · repeat (first | with_reducible refine kA ?_ | ((with_reducible refine kS ?_ ?_); focus omega))
          exact Cur.mono (by assumption) (by omega)
        · repeat (first | with_reducible assumption | with_reducible exact grown_id _ _ | with_reducible refine gA ?_ | ((with_reducible refine gS ?_ ?_); focus (first | omega | (simp <;> omega))) | with_reducible refine gT (by assumption) ?_)
    · go_wp2_with fail
      refine (reAll_any d _ hd.1 hd.2.1 hd.2.2).mono ?_
      rintro ex wx ⟨vx, L, rfl, hrx, hL1, hL2, ⟨fx, hfx, -⟩, hBx⟩
      have kx := kB hBx kz
      have f10 := f9.below hBx
      have r10 := rz.below hBx
      have v10 := vz.below hBx
      have s10 := gB hBx sz
      have z9 := sz.size
      obtain ⟨n, hn⟩ : ∃ n, L.length = n := ⟨_, rfl⟩
      have hn0 : 0 < n := by rw [← hn]; exact List.length_pos_of_mem hfx
      obtain ⟨ax, cx, hvx, _, _, hsx⟩ := hrx.sees c3_len
      rw [hn] at hvx hL1
      subst hvx
      have hn0' : decide ((0 : Int) < (n : Int)) = true := decide_eq_true (by omega)
      clear hBx f9 rz vz sz kz hfx
      go_wp2_with fail
      refine (pick_any _ g _ _ kx (by omega) (by omega)).mono ?_
      rintro ey wy ⟨⟨xy, rfl, py, qy⟩, ky, gy⟩
      obtain ⟨hCy, hFy⟩ := gcell gy hlt
      have f11 := f10.grown gy (by omega)
      have r11 := r10.grown gy (by omega)
      have v11 := v10.grown gy (by omega)
      have s11 := gT gy s10
      obtain ⟨i, rfl⟩ : ∃ i : Nat, xy = i := ⟨xy.toNat, by omega⟩
      have hi : i < n := by omega
      have hi' : (i : Int) < (n : Int) := by omega
      obtain ⟨⟨a5, b5, c5⟩, hx⟩ := get_some hn hi
      have hPF := hL2 _ (List.mem_of_getElem? hx)
      obtain ⟨bl, rfl, hc0, hc1, hc2⟩ : ∃ bl, ax = some ⟨bl, 0, none⟩ ∧ wy.cell? ⟨bl, i * 3, none⟩ = some (.int .i64 a5) ∧ wy.cell? ⟨bl, i * 3 + 1, none⟩ = some (.int .i64 b5) ∧ wy.cell? ⟨bl, i * 3 + 2, none⟩ = some (.int .i64 c5) := by
        rcases hsx with h0 | ⟨bl, rfl, hb1, hb2, hcell, _⟩
        · omega
        · have e := fun o => hCy bl o (by omega) hb2
          exact ⟨bl, rfl, by rw [e]; simpa [c3] using hcell i _ hx 0 (by omega), by rw [e]; simpa [c3] using hcell i _ hx 1 (by omega), by rw [e]; simpa [c3] using hcell i _ hx 2 (by omega)⟩
      clear hsx hrx hCy hFy gy kx f10 r10 v10 s10 hL2 hx
      obtain ⟨w12, e12, f12, z12, g12⟩ := f11.set a5 b5 c5
      have hbl1 := f11.lt
      have k12 : Cur _ g w12 := ky.apart g12 (fun k e => by cases e; omega)
      have r12 := r11.grown g12 (by omega)
      have v12 := v11.grown g12 (by omega)
      have s12 := gO (by omega) g12 s11
      obtain ⟨h11, h12, h13, h14⟩ := f11.at_
      clear g12 r11 v11 s11 ky f11
      obtain ⟨p51, p52, p53, p54, -, -, -⟩ := hPF
      simp only at p51 p52 p53 p54
      have hw5 : wrap64 (2 * a5) = 2 * a5 := by unfold wrap64; omega
      have hb5 : I64 b5 := ⟨by omega, by omega⟩
      have hm50 := Int.emod_nonneg b5 (show 2 * a5 ≠ 0 by omega)
      have hm51 := Int.emod_lt_of_pos b5 (show 0 < 2 * a5 by omega)
      obtain ⟨d0, d1, d2, -⟩ := f12.at_
      have fl12 := f12.lt
      have vl12 := v12.lt
      go_wp2_with fail
      try rw [e12]
      clear e12 h11 h12 h13 h14 hc0 hc1 hc2
      refine wp_region_past_tail 9 (by kernel_rfl) (by kernel_rfl) ?_
      simp only [List.take_succ_cons, List.take_zero, List.drop_succ_cons, List.drop_zero]
      repeat (first | go_big_quiet_skip | (go_big_quiet_want; go_big_quiet_op; first | go_big_quiet_on | (apply Exists.intro; refine ⟨fun _ => ?_, ?_⟩; (focus ((go_at_call 50; exact past_same (nuMod_any b5 (2 * a5) _ hb5 (by omega) (by omega))))); go_big_quiet_on)))
      refine wpQuiet_nil ?_
      intro w2 hw'
      have hB2 := past_below hw'
      clear hw'
      obtain ⟨hC2, hF2⟩ := bcell hB2
      have hS2 := hB2.size
      (try simp at hS2)
      (try have hS2_w0 : w.heap.size < w2.heap.size := by omega)
      (try have hS2_w1 : w.heap.size + 1 < w2.heap.size := by omega)
      (try have hS2_w2 : w.heap.size + 1 + 1 < w2.heap.size := by omega)
      (try have hS2_w3 : w.heap.size + 1 + 1 + 1 < w2.heap.size := by omega)
      (try have hS2_w4 : w.heap.size + 1 + 1 + 1 + 1 < w2.heap.size := by omega)
      (try have hS2_1 : w1.heap.size < w2.heap.size := by omega)
      (try have hS2_1' : w1.heap.size + 1 < w2.heap.size := by omega)
      have v13 := v12.below hB2
      have r13 := r12.below hB2
      have k13 := kB hB2 k12
      have s13 := gB hB2 s12
      obtain ⟨M2, hM2⟩ : ∃ M, b5 % (2 * a5) = M := ⟨_, rfl⟩
      obtain ⟨w14, e14, vz, z14, g14⟩ := v13.set 1 a5 M2
      have hbl2 := v13.lt
      have kz : Cur _ g w14 := k13.apart g14 (fun k e => by cases e; omega)
      have rz := r13.grown g14 (by omega)
      have sz := gO (by omega) g14 s13
      obtain ⟨h11, h12, h13, h14⟩ := v13.at_
      rw [hM2] at hm50 hm51
      have hOi : I64 1 := by unfold I64; omega
      have hA5 : I64 a5 := ⟨by omega, by omega⟩
      have hM5 : I64 M2 := ⟨by omega, by omega⟩
      clear g14 r12 r13 v12 s12 s13 k12 k13 v13 f12 d0 d1 d2 hB2 hC2 hF2
      go_wp2_with fail
      try simp only [hM2]
      try rw [e14]
      refine (one_any _ g _ _ kz (by omega) (by omega)).mono ?_
      rintro eo wo ⟨⟨xo, rfl, -, -⟩, ko, go⟩
      have vo := vz.grown go (by omega)
      have ro := rz.grown go (by omega)
      have so := gT go sz
      have vl := vo.lt
      have rl := ro.lt
      obtain ⟨y0, y1, y2, y3⟩ := vo.at_
      obtain ⟨n0, n1, n2, n3⟩ := ro.at_
      clear go vz rz sz kz
      cases xo
      · go_wp2_with fail
        refine bodyPost_ret (v := .agg #[.int .i64 1, .int .i64 a5, .int .i64 M2]) (by go_light; simp [results, Try.results72, go_sem, *]) rfl ⟨⟨(1, a5, M2), rfl, ⟨hOi, hA5, hM5⟩, trivial⟩, ?_, ?_⟩
        · repeat (first | with_reducible refine kA ?_ | ((with_reducible refine kS ?_ ?_); focus omega))
          exact Cur.mono (by assumption) (by omega)
        · repeat (first | with_reducible assumption | with_reducible exact grown_id _ _ | with_reducible refine gA ?_ | ((with_reducible refine gS ?_ ?_); focus (first | omega | (simp <;> omega))) | with_reducible refine gT (by assumption) ?_)
      · go_wp2_with fail
        refine (among_any _ g wo.heap.size 4 4 I64 _ (kA ko) (by omega) (by omega) (lst_new _ _ _ _ _ rfl ?_) (by have := ko.lt; omega)).mono ?_
        · simp [I64]
        rintro eq wq ⟨⟨xq, rfl, pq, -⟩, kq, gq⟩
        have vq := (vo.below (below_alloc _ _)).grown gq (by omega)
        have rq := (ro.below (below_alloc _ _)).grown gq (by omega)
        have sq := gT gq (gA so)
        have vl2 := vq.lt
        have rl2 := rq.lt
        clear y0 y1 y2 y3 n0 n1 n2 n3 gq ko vo ro so vl rl
        obtain ⟨y0, y1, y2, y3⟩ := vq.at_
        obtain ⟨n0, n1, n2, n3⟩ := rq.at_
        have hbz1 : ¬ w.heap.size = bz := by omega
        have hbz2 : ¬ bz = w.heap.size := by omega
        go_wp2_with fail
        refine bodyPost_ret (v := .agg #[.int .i64 xq, .int .i64 a5, .int .i64 M2]) (by go_light; simp [results, Try.results72, go_sem, *]) rfl ⟨⟨(xq, a5, M2), rfl, ⟨pq, hA5, hM5⟩, trivial⟩, ?_, ?_⟩
        · repeat (first | with_reducible refine kA ?_ | ((with_reducible refine kS ?_ ?_); focus omega))
          exact Cur.mono (by assumption) (by omega)
        · repeat (first | with_reducible assumption | with_reducible exact grown_id _ _ | with_reducible refine gA ?_ | ((with_reducible refine gS ?_ ?_); focus (first | omega | (simp <;> omega))) | with_reducible refine gT (by assumption) ?_)
end Go.Proofs.Ytahhbjjnbdggjaa
