/-
  Powers of the fundamental solution, both ways.
-/
import Derived.Test.YtemnkfigjpphgaaPmf
import Derived.Test.YtemnkfigjpphgaaUnt
namespace Go.Proofs.Ytemnkfigjpphgaa
open Go.RowKit
attribute [local simp, local go_sem] past_cell past_frozen past_tape
/-- A power as long as all powers up to it are small. -/
def PwR (d T U : Int) (k : Nat) (t u : Int) (ok : Bool) : Prop := (ok = true ∧ t = (pwT d T U k).1 ∧ u = (pwT d T U k).2 ∧ ∀ j, j ≤ k → smallB (pwT d T U j).1 (pwT d T U j).2 = true) ∨ (ok = false ∧ t = 0 ∧ u = 0 ∧ ∃ j, j ≤ k ∧ smallB (pwT d T U j).1 (pwT d T U j).2 = false)
theorem PwR.unique {d T U : Int} {k : Nat} {t u t' u' : Int} {ok ok' : Bool} (h : PwR d T U k t u ok) (h' : PwR d T U k t' u' ok') : t = t' ∧ u = u' ∧ ok = ok' := by
  rcases h with ⟨rfl, rfl, rfl, a⟩ | ⟨rfl, rfl, rfl, j, j1, j2⟩ <;> rcases h' with ⟨rfl, rfl, rfl, a'⟩ | ⟨rfl, rfl, rfl, j', j1', j2'⟩
  · exact ⟨rfl, rfl, rfl⟩
  · rw [a j' j1'] at j2'; cases j2'
  · rw [a' j j1] at j2; cases j2
  · exact ⟨rfl, rfl, rfl⟩
theorem PwR.exist (d T U : Int) (k : Nat) : ∃ t u ok, PwR d T U k t u ok := by
  by_cases h : ∃ j, j ≤ k ∧ smallB (pwT d T U j).1 (pwT d T U j).2 = false
  · exact ⟨0, 0, false, .inr ⟨rfl, rfl, rfl, h⟩⟩
  · refine ⟨_, _, true, .inl ⟨rfl, rfl, rfl, fun j hj => ?_⟩⟩
    cases hs : smallB (pwT d T U j).1 (pwT d T U j).2
    · exact absurd ⟨j, hj, hs⟩ h
    · rfl
theorem tdiv_even {n : Int} (h : n % 2 = 0) : n.tdiv 2 = n / 2 := by
  obtain ⟨m, rfl⟩ := Int.dvd_of_emod_eq_zero h
  rw [Int.mul_tdiv_cancel_left _ (by omega), Int.mul_ediv_cancel_left _ (by omega)]
theorem pw_next {d T U : Int} (hd : 5 ≤ d) (h : Sol d T U) (k : Nat) : pwT d T U (k + 1) = (pT d (pwT d T U k).1 (pwT d T U k).2 T U, pU (pwT d T U k).1 (pwT d T U k).2 T U) := by
  have h1 := (pw_sol hd h k).1
  obtain ⟨p1, p2⟩ := sol_par (e := 1) (e' := 1) h1 h.2.2
  show (_, _) = _
  unfold pT pU
  rw [tdiv_even p1, tdiv_even p2]
theorem pw_zero (d T U : Int) : pwT d T U 0 = (2, 0) := rfl
/-- What PellPower returns. -/
def PP (d k t u : Int) (ok : Bool) : Prop := ∃ T U okf, PF d T U okf ∧ ((okf = true ∧ 0 ≤ k ∧ k ≤ 20 ∧ PwR d T U k.toNat t u ok) ∨ (¬ (okf = true ∧ 0 ≤ k ∧ k ≤ 20) ∧ t = 0 ∧ u = 0 ∧ ok = false))
theorem PP.exist (d k : Int) : ∃ t u ok, PP d k t u ok := by
  obtain ⟨T, U, okf, h⟩ := PF.exist d
  by_cases hk : okf = true ∧ 0 ≤ k ∧ k ≤ 20
  · obtain ⟨t, u, ok, h2⟩ := PwR.exist d T U k.toNat
    exact ⟨t, u, ok, T, U, okf, h, .inl ⟨hk.1, hk.2.1, hk.2.2, h2⟩⟩
  · exact ⟨0, 0, false, T, U, okf, h, .inr ⟨hk, rfl, rfl, rfl⟩⟩
theorem Least.smallB {d T U : Int} (h : Least d T U) (hs : Small T U) : smallB T U = true := (smallB_pos h.1.1 h.1.2.1).2 hs
/-- The blocks of the powers' loop. -/
structure PB (w wr : World) (sb pb : Nat) (T U t u : Int) : Prop where
  r : Blk w.heap.size 27 #[.int .i64 0, .int .i64 0] wr
  s : Blk sb 27 #[.int .i64 T, .int .i64 U] wr
  p : Blk pb 27 #[.int .i64 t, .int .i64 u] wr
  b : Below w.heap.size w wr
theorem PB.below {w wr w' : World} {sb pb : Nat} {T U t u : Int} (h : PB w wr sb pb T U t u) (hb : Below wr.heap.size wr w') : PB w w' sb pb T U t u :=
  ⟨h.r.below hb, h.s.below hb, h.p.below hb, h.b.trans (hb.mono h.b.size)⟩
theorem PB.set {w wr : World} {sb pb : Nat} {T U t u : Int} (h : PB w wr sb pb T U t u) (h1 : w.heap.size < sb) (h2 : w.heap.size < pb) (h3 : sb ≠ pb) (p q : Int) : ∃ w4, (wr.setCell ⟨pb, 0, none⟩ (.int .i64 p)).setCell ⟨pb, 1, none⟩ (.int .i64 q) = w4 ∧ PB w w4 sb pb T U p q ∧ w4.heap.size = wr.heap.size := by
  obtain ⟨w4, e4, k4, z4, g4⟩ := h.p.set2 (.int .i64 p) (.int .i64 q)
  exact ⟨w4, e4, ⟨h.r.grown g4 (by simp <;> omega), h.s.grown g4 (by simp <;> omega), k4, below_grown h.b g4 (by omega) (by have := h.b.size; omega)⟩, z4⟩
set_option maxRecDepth 100000 in
set_option maxHeartbeats 8000000 in
/-- The loop's end, for a good number. -/
theorem pellPower_yes (d T U t u : Int) (k : Nat) (ok : Bool) (w : World) (hp : posB d = true) (hf : PFour d T U true) (hs : smallB T U = true) (hk : k ≤ 20) (h : PwR d T U k t u ok) :
    Calls Try.prog 45 #[.int .i64 d, .int .i64 (k : Int)] w fun en w' => en = .returned (.tuple #[.agg #[.int .i64 t, .int .i64 u], .bool ok]) ∧ Below w.heap.size w w' := by
  have hcall := Lib.hid fun w1 => pellFour_any d T U true w1 hp hf
  go_enter Try.func45, Try.ntmps45
  go_wp2_with (first | (go_at_call 49; refine (hcall.out _).mono ?_; rintro e w' ⟨rfl, hB⟩; obtain ⟨hC, hF⟩ := bcell hB; have hS := hB.size; (try simp at hS); (try have hSl := Nat.lt_of_succ_le hS); (try have hS0 : w.heap.size < w'.heap.size := by omega); (try have hS1 : w.heap.size + 1 < w'.heap.size := by omega); (try have hS2 : w.heap.size + 1 + 1 < w'.heap.size := by omega); (try have hS3 : w.heap.size + 1 + 1 + 1 < w'.heap.size := by omega)))
  obtain ⟨V, hV, hP⟩ : ∃ V, (w'.alloc (.cells #[.int .i64 T, .int .i64 U] 27)).alloc (.cells #[.int .i64 2, .int .i64 0] 27) = V ∧ Hid (PB w V w'.heap.size (w'.heap.size + 1) T U 2 0) := by
    refine ⟨_, rfl, Lib.hid ⟨(((Blk.new w 27 #[.int .i64 0, .int .i64 0]).below hB).alloc _).alloc _, (Blk.new _ _ _).alloc _, ?_, by repeat (first | with_reducible exact Below.refl _ _ | with_reducible assumption | ((with_reducible refine blA ?_ ?_); (focus (first | omega | (simp <;> omega)))) | (with_reducible refine blD ?_) | (with_reducible refine blN ?_) | ((with_reducible refine blS ?_ ?_); (focus (first | omega | (simp <;> omega)))) | ((with_reducible refine blT (by assumption) ?_ ?_); (focus (first | omega | (simp <;> omega)))))⟩⟩
    have := Blk.new (w'.alloc (.cells #[.int .i64 T, .int .i64 U] 27)) 27 #[.int .i64 2, .int .i64 0]
    simpa using this
  rw [hV]
  have s1 : w.heap.size < w'.heap.size := by omega
  have s2 : w.heap.size < w'.heap.size + 1 := by omega
  obtain ⟨sb, hsb⟩ : ∃ sb, w'.heap.size = sb := ⟨_, rfl⟩
  obtain ⟨pb, hpb⟩ : ∃ pb, w'.heap.size + 1 = pb := ⟨_, rfl⟩
  have s3 : sb ≠ pb := by omega
  rw [hpb] at s2 ⊢ hP
  rw [hsb] at s1 ⊢ hP
  clear hsb hpb hV hB hC hF hS hcall
  have hsm0 : smallB (pwT d T U 0).1 (pwT d T U 0).2 = true := by rw [pw_zero]; decide
  have HS0 := Lib.hid hsm0
  have HSOL : Hid (Sol d T U) := Lib.hid (by rcases hf with ⟨_, h, _⟩ | ⟨h, _⟩; exact h.1; cases h)
  obtain ⟨d1, d2⟩ := posB_true hp
  have HH := Lib.hid h
  clear hsm0 hf h
  go_loopw [1] (fun kv wr => ∃ (j : Nat) (x y : Int), kv = .int .i64 ((k : Int) - j) ∧ j ≤ k ∧ Hid (x = (pwT d T U j).1 ∧ y = (pwT d T U j).2 ∧ ∀ i, i ≤ j → smallB (pwT d T U i).1 (pwT d T U i).2 = true) ∧ Hid (PB w wr sb pb T U x y)) (fun kv _ => (intOf kv).toNat)
  case atStart =>
    exact ⟨0, 2, 0, by simp, by omega, Lib.hid ⟨rfl, rfl, fun i hi => by have e : i = 0 := by { omega }; rw [e]; exact HS0.out⟩, hP⟩
  case round =>
    clear hP
    obtain ⟨j, x, y, rfl, hj, hX, hK⟩ := hrel
    by_cases hjk : j < k
    · have hgt : decide ((k : Int) - j > 0) = true := decide_eq_true (by omega)
      have hwk : wrap64 ((k : Int) - j - 1) = (k : Int) - j - 1 := by unfold wrap64; omega
      have hxy : smallB x y = true := by obtain ⟨rfl, rfl, h3⟩ := hX.out; exact h3 j (Nat.le_refl _)
      obtain ⟨p, hpp⟩ : ∃ p, pT d x y T U = p := ⟨_, rfl⟩
      obtain ⟨q, hqq⟩ : ∃ q, pU x y T U = q := ⟨_, rfl⟩
      have htm : Hid (∀ w1, Calls Try.prog 53 #[.int .i64 d, .agg #[.int .i64 x, .int .i64 y], .agg #[.int .i64 T, .int .i64 U]] w1 fun e w' => e = .returned (.agg #[.int .i64 p, .int .i64 q]) ∧ Below w1.heap.size w1 w') := Lib.hid fun w1 => by have := pellTimes_any d x y T U w1 hp hxy hs; rwa [hpp, hqq] at this
      have hpI : I64 p := by rw [← hpp]; exact pT_I hp hxy hs
      have hsm : Hid (∀ w1, Calls Try.prog 50 #[.agg #[.int .i64 p, .int .i64 q]] w1 fun e w' => e = .returned (.bool (smallB p q)) ∧ Below w1.heap.size w1 w') := Lib.hid fun w1 => isSmall_any p q w1 hpI
      have HPQ : Hid (p = (pwT d T U (j + 1)).1 ∧ q = (pwT d T U (j + 1)).2) := Lib.hid (by
        obtain ⟨rfl, rfl, _⟩ := hX.out
        rw [pw_next d1 HSOL.out, ← hpp, ← hqq]
        exact ⟨rfl, rfl⟩)
      clear hpp hqq hpI hxy
      have cs := hK.out.s.cell
      have ls := hK.out.s.lt
      have cp := hK.out.p.cell
      have lp := hK.out.p.lt
      go_wp2_with fail
      refine (htm.out _).mono ?_
      rintro e1 w1 ⟨rfl, hB1⟩
      have hK1 := hK.out.below hB1
      have c1 := hK1.p.cell
      have f1 := hK1.p.froz
      have l1 := hK1.p.lt
      obtain ⟨w2, e2, k2, z2⟩ := hK1.set s1 s2 s3 p q
      have HK2 := Lib.hid k2
      have c2 := k2.p.cell
      have l2 := k2.p.lt
      clear hK hK1 hB1 k2 z2 cs ls cp lp htm
      go_wp2_with fail
      refine (hsm.out _).mono ?_
      rintro e3 w3 ⟨rfl, hB3⟩
      have HK3 := Lib.hid (HK2.out.below hB3)
      clear HK2 hB3 c1 f1 l1 e2 c2 l2 hsm
      cases hb : smallB p q with
      | true =>
        have HX1 : Hid (p = (pwT d T U (j + 1)).1 ∧ q = (pwT d T U (j + 1)).2 ∧ ∀ i, i ≤ j + 1 → smallB (pwT d T U i).1 (pwT d T U i).2 = true) := Lib.hid ⟨HPQ.out.1, HPQ.out.2, fun i hi => by
          rcases (show i ≤ j ∨ i = j + 1 by omega) with h | h
          · exact hX.out.2.2 i h
          · rw [h, ← HPQ.out.1, ← HPQ.out.2]; exact hb⟩
        clear hb
        go_wp2_with fail
        go_roundw
        case rel =>
          go_light
          exact ⟨j + 1, p, q, by go_num, by omega, HX1, HK3⟩
        case measure => simp [intOf]; omega
      | false =>
        have HNO : Hid (t = 0 ∧ u = 0 ∧ ok = false) := Lib.hid ((HH.out).unique (.inr ⟨rfl, rfl, rfl, j + 1, by omega, by rw [← HPQ.out.1, ← HPQ.out.2]; exact hb⟩))
        obtain ⟨rfl, rfl, rfl⟩ := HNO.out
        have c3 := HK3.out.r.cell
        have f3 := HK3.out.r.froz
        have l3 := HK3.out.r.lt
        obtain ⟨w4, e4, k4, z4, g4⟩ := HK3.out.r.set2 (.int .i64 0) (.int .i64 0)
        have c4 := k4.cell
        have l4 := k4.lt
        have HB4 := Lib.hid (below_grown HK3.out.b g4 (by omega) (by have := HK3.out.b.size; omega))
        clear hb k4 z4 g4 HK3
        go_wp2_with fail
        refine bodyPost_ret (v := .tuple #[.agg #[.int .i64 0, .int .i64 0], .bool false]) (by go_light; simp [results, Try.results45, go_sem, *]) rfl ⟨rfl, HB4.out⟩
    · have hgt : decide ((k : Int) - j > 0) = false := decide_eq_false (by omega)
      have HYES : Hid (t = x ∧ u = y ∧ ok = true) := Lib.hid ((HH.out).unique (by
        have e : j = k := by omega
        subst e
        obtain ⟨rfl, rfl, h3⟩ := hX.out
        exact .inl ⟨rfl, rfl, rfl, h3⟩))
      obtain ⟨rfl, rfl, rfl⟩ := HYES.out
      have cp := hK.out.p.cell
      have lp := hK.out.p.lt
      have c3 := hK.out.r.cell
      have f3 := hK.out.r.froz
      have l3 := hK.out.r.lt
      obtain ⟨w4, e4, k4, z4, g4⟩ := hK.out.r.set2 (.int .i64 t) (.int .i64 u)
      have c4 := k4.cell
      have l4 := k4.lt
      have HB4 := Lib.hid (below_grown hK.out.b g4 (by omega) (by have := hK.out.b.size; omega))
      clear k4 z4 g4 hK
      go_wp2_with fail
      refine bodyPost_ret (v := .tuple #[.agg #[.int .i64 t, .int .i64 u], .bool true]) (by go_light; simp [results, Try.results45, go_sem, *]) rfl ⟨rfl, HB4.out⟩
set_option maxHeartbeats 8000000 in
theorem pellPower_no (d k T U : Int) (okf : Bool) (w : World) (hp : posB d = true) (hf : PFour d T U okf) (hk : ¬ (okf = true ∧ 0 ≤ k ∧ k ≤ 20)) :
    Calls Try.prog 45 #[.int .i64 d, .int .i64 k] w fun en w' => en = .returned (.tuple #[.agg #[.int .i64 0, .int .i64 0], .bool false]) ∧ Below w.heap.size w w' := by
  have hcall := Lib.hid fun w1 => pellFour_any d T U okf w1 hp hf
  cases okf with
  | false =>
    clear hk
    go_enter Try.func45, Try.ntmps45
    go_wp2_with (first | (go_at_call 49; refine (hcall.out _).mono ?_; rintro e w' ⟨rfl, hB⟩; obtain ⟨hC, hF⟩ := bcell hB; have hS := hB.size; (try simp at hS); (try have hSl := Nat.lt_of_succ_le hS); (try have hS0 : w.heap.size < w'.heap.size := by omega); (try have hS1 : w.heap.size + 1 < w'.heap.size := by omega); (try have hS2 : w.heap.size + 1 + 1 < w'.heap.size := by omega); (try have hS3 : w.heap.size + 1 + 1 + 1 < w'.heap.size := by omega)))
    all_goals
      refine bodyPost_ret (v := .tuple #[.agg #[.int .i64 0, .int .i64 0], .bool false]) (by go_light; simp [results, Try.results45, go_sem, *]) rfl ⟨rfl, ?_⟩
      repeat (first | with_reducible exact Below.refl _ _ | with_reducible assumption | ((with_reducible refine blA ?_ ?_); (focus (first | omega | (simp <;> omega)))) | (with_reducible refine blD ?_) | (with_reducible refine blN ?_) | ((with_reducible refine blS ?_ ?_); (focus (first | omega | (simp <;> omega)))) | ((with_reducible refine blT (by assumption) ?_ ?_); (focus (first | omega | (simp <;> omega)))))
  | true =>
    by_cases h0 : k < 0
    · have hd0 : decide (k < 0) = true := decide_eq_true h0
      go_enter Try.func45, Try.ntmps45
      go_wp2_with (first | (go_at_call 49; refine (hcall.out _).mono ?_; rintro e w' ⟨rfl, hB⟩; obtain ⟨hC, hF⟩ := bcell hB; have hS := hB.size; (try simp at hS); (try have hSl := Nat.lt_of_succ_le hS); (try have hS0 : w.heap.size < w'.heap.size := by omega); (try have hS1 : w.heap.size + 1 < w'.heap.size := by omega); (try have hS2 : w.heap.size + 1 + 1 < w'.heap.size := by omega); (try have hS3 : w.heap.size + 1 + 1 + 1 < w'.heap.size := by omega)))
      all_goals
        refine bodyPost_ret (v := .tuple #[.agg #[.int .i64 0, .int .i64 0], .bool false]) (by go_light; simp [results, Try.results45, go_sem, *]) rfl ⟨rfl, ?_⟩
        repeat (first | with_reducible exact Below.refl _ _ | with_reducible assumption | ((with_reducible refine blA ?_ ?_); (focus (first | omega | (simp <;> omega)))) | (with_reducible refine blD ?_) | (with_reducible refine blN ?_) | ((with_reducible refine blS ?_ ?_); (focus (first | omega | (simp <;> omega)))) | ((with_reducible refine blT (by assumption) ?_ ?_); (focus (first | omega | (simp <;> omega)))))
    · have h20 : 20 < k := by
        refine Int.lt_of_not_ge fun h => hk ⟨rfl, by omega, h⟩
      have hd0 : decide (k < 0) = false := decide_eq_false h0
      have hd1 : decide (20 < k) = true := decide_eq_true h20
      go_enter Try.func45, Try.ntmps45
      go_wp2_with (first | (go_at_call 49; refine (hcall.out _).mono ?_; rintro e w' ⟨rfl, hB⟩; obtain ⟨hC, hF⟩ := bcell hB; have hS := hB.size; (try simp at hS); (try have hSl := Nat.lt_of_succ_le hS); (try have hS0 : w.heap.size < w'.heap.size := by omega); (try have hS1 : w.heap.size + 1 < w'.heap.size := by omega); (try have hS2 : w.heap.size + 1 + 1 < w'.heap.size := by omega); (try have hS3 : w.heap.size + 1 + 1 + 1 < w'.heap.size := by omega)))
      all_goals
        refine bodyPost_ret (v := .tuple #[.agg #[.int .i64 0, .int .i64 0], .bool false]) (by go_light; simp [results, Try.results45, go_sem, *]) rfl ⟨rfl, ?_⟩
        repeat (first | with_reducible exact Below.refl _ _ | with_reducible assumption | ((with_reducible refine blA ?_ ?_); (focus (first | omega | (simp <;> omega)))) | (with_reducible refine blD ?_) | (with_reducible refine blN ?_) | ((with_reducible refine blS ?_ ?_); (focus (first | omega | (simp <;> omega)))) | ((with_reducible refine blT (by assumption) ?_ ?_); (focus (first | omega | (simp <;> omega)))))
set_option maxHeartbeats 8000000 in
theorem implPellPower_any (d k t u : Int) (ok : Bool) (w : World) (hd : I64 d) (h : PP d k t u ok) :
    Calls Try.prog 8 #[.int .i64 d, .int .i64 k] w fun en w' => en = .returned (.tuple #[.agg #[.int .i64 t, .int .i64 u], .bool ok]) ∧ Below w.heap.size w w' := by
  obtain ⟨T, U, okf, hf, h⟩ := h
  rcases hf with ⟨hp, hf⟩ | ⟨hp, rfl, rfl, rfl⟩
  · have hcall : Hid (∀ w1, Calls Try.prog 45 #[.int .i64 d, .int .i64 k] w1 fun e w' => e = .returned (.tuple #[.agg #[.int .i64 t, .int .i64 u], .bool ok]) ∧ Below w1.heap.size w1 w') := by
      rcases h with ⟨rfl, k0, k1, h⟩ | ⟨hk, rfl, rfl, rfl⟩
      · refine Lib.hid fun w1 => ?_
        obtain ⟨hL, hS⟩ : Least d T U ∧ Small T U := by rcases hf with ⟨_, h1, h2⟩ | ⟨h1, _⟩; exact ⟨h1, h2⟩; cases h1
        have := pellPower_yes d T U t u k.toNat ok w1 hp hf (hL.smallB hS) (by omega) h
        rwa [show ((k.toNat : Nat) : Int) = k by omega] at this
      · exact Lib.hid fun w1 => pellPower_no d k T U okf w1 hp hf hk
    clear h hf
    go_enter Try.func8, Try.ntmps8
    go_wp2_with (first | (go_at_call 44; refine (isPositiveDisc_any _ _ hd).mono ?_; rintro e w' ⟨rfl, rfl⟩) | (go_at_call 45; refine (hcall.out _).mono ?_; rintro e w' ⟨rfl, hB⟩; obtain ⟨hC, hF⟩ := bcell hB; have hS := hB.size; (try simp at hS); (try have hSl := Nat.lt_of_succ_le hS); (try have hS0 : w.heap.size < w'.heap.size := by omega); (try have hS1 : w.heap.size + 1 < w'.heap.size := by omega); (try have hS2 : w.heap.size + 1 + 1 < w'.heap.size := by omega); (try have hS3 : w.heap.size + 1 + 1 + 1 < w'.heap.size := by omega)))
    refine bodyPost_ret (v := .tuple #[.agg #[.int .i64 t, .int .i64 u], .bool ok]) (by go_light; simp [results, Try.results8, go_sem, *]) rfl ⟨rfl, ?_⟩
    repeat (first | with_reducible exact Below.refl _ _ | with_reducible assumption | ((with_reducible refine blA ?_ ?_); (focus (first | omega | (simp <;> omega)))) | (with_reducible refine blD ?_) | (with_reducible refine blN ?_) | ((with_reducible refine blS ?_ ?_); (focus (first | omega | (simp <;> omega)))) | ((with_reducible refine blT (by assumption) ?_ ?_); (focus (first | omega | (simp <;> omega)))))
  · obtain ⟨rfl, rfl, rfl⟩ : t = 0 ∧ u = 0 ∧ ok = false := by
      rcases h with ⟨h, _⟩ | ⟨_, h⟩
      · cases h
      · exact h
    go_enter Try.func8, Try.ntmps8
    go_wp2_with (first | (go_at_call 44; refine (isPositiveDisc_any _ _ hd).mono ?_; rintro e w' ⟨rfl, rfl⟩))
    refine bodyPost_ret (v := .tuple #[.agg #[.int .i64 0, .int .i64 0], .bool false]) (by go_light; simp [results, Try.results8, go_sem, *]) rfl ⟨rfl, ?_⟩
    repeat (first | with_reducible exact Below.refl _ _ | with_reducible assumption | ((with_reducible refine blA ?_ ?_); (focus (first | omega | (simp <;> omega)))) | (with_reducible refine blD ?_) | (with_reducible refine blN ?_) | ((with_reducible refine blS ?_ ?_); (focus (first | omega | (simp <;> omega)))) | ((with_reducible refine blT (by assumption) ?_ ?_); (focus (first | omega | (simp <;> omega)))))
end Go.Proofs.Ytemnkfigjpphgaa
