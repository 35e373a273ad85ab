/-
  The reference's powers of the fundamental solution.
-/
import Derived.Test.YtemnkfigjpphgaaSpf
namespace Go.Proofs.Ytemnkfigjpphgaa
open Go.RowKit
attribute [local simp, local go_sem] past_cell past_frozen past_tape
set_option maxRecDepth 100000 in
set_option maxHeartbeats 8000000 in
/-- The loop's end, for a good number. -/
theorem unPower_yes (d T U t u : Int) (k : Nat) (ok : Bool) (w : World) (hp : posB d = true) (hf : PFour d T U true) (hs : smallB T U = true) (hk : k ≤ 20) (h : PwR d T U k t u ok) :
    Calls Try.prog 48 #[.int .i64 d, .int .i64 (k : Int)] w fun en w' => en = .returned (.tuple #[.agg #[.int .i64 t, .int .i64 u], .bool ok]) ∧ Below w.heap.size w w' := by
  have hcall : Hid (∀ w1, Calls Try.prog 103 #[.int .i64 d] w1 fun e w' => e = .returned (.tuple #[.agg #[.int .i64 T, .int .i64 U], .bool true]) ∧ Below w1.heap.size w1 w') := Lib.hid fun w1 => by
    refine (unFour_any d T U true w1 hp hf).mono ?_
    rintro e w' ⟨⟨t', u', rfl, hv⟩, hB⟩
    obtain ⟨rfl, rfl⟩ := hv rfl
    exact ⟨rfl, hB⟩
  go_enter Try.func48, Try.ntmps48
  go_wp2_with (first | (go_at_call 103; refine (hcall.out _).mono ?_; rintro e w' ⟨rfl, hB⟩; obtain ⟨hC, hF⟩ := bcell hB; have hS := hB.size; (try simp at hS); (try have hSl := Nat.lt_of_succ_le hS); (try have hS0 : w.heap.size < w'.heap.size := by omega); (try have hS1 : w.heap.size + 1 < w'.heap.size := by omega); (try have hS2 : w.heap.size + 1 + 1 < w'.heap.size := by omega); (try have hS3 : w.heap.size + 1 + 1 + 1 < w'.heap.size := by omega)))
  obtain ⟨V, hV, hP⟩ : ∃ V, w'.alloc (.cells #[.int .i64 T, .int .i64 U] 27) = V ∧ Hid (PB w V w'.heap.size (w.heap.size + 1) T U 2 0) := by
    refine ⟨_, rfl, Lib.hid ⟨(((Blk.new w 27 #[.int .i64 0, .int .i64 0]).alloc _).below hB).alloc _, Blk.new _ _ _, ?_, by repeat (first | with_reducible exact Below.refl _ _ | with_reducible assumption | ((with_reducible refine blA ?_ ?_); (focus (first | omega | (simp <;> omega)))) | (with_reducible refine blD ?_) | (with_reducible refine blN ?_) | ((with_reducible refine blS ?_ ?_); (focus (first | omega | (simp <;> omega)))) | ((with_reducible refine blT (by assumption) ?_ ?_); (focus (first | omega | (simp <;> omega)))))⟩⟩
    have := (Blk.new (w.alloc (.cells #[.int .i64 0, .int .i64 0] 27)) 27 #[.int .i64 2, .int .i64 0]).below hB
    have := this.alloc (.cells #[.int .i64 T, .int .i64 U] 27)
    simpa using this
  rw [hV]
  have s1 : w.heap.size < w'.heap.size := by omega
  have s2 : w.heap.size < w.heap.size + 1 := by omega
  obtain ⟨sb, hsb⟩ : ∃ sb, w'.heap.size = sb := ⟨_, rfl⟩
  obtain ⟨pb, hpb⟩ : ∃ pb, w.heap.size + 1 = pb := ⟨_, rfl⟩
  have s3 : sb ≠ pb := by (try simp at hS); omega
  rw [hpb] at s2 ⊢ hP
  rw [hsb] at s1 ⊢ hP
  clear hsb hpb hV hB hC hF hS hcall
  have hsm0 : smallB (pwT d T U 0).1 (pwT d T U 0).2 = true := by rw [pw_zero]; decide
  have HS0 := Lib.hid hsm0
  have HSOL : Hid (Sol d T U) := Lib.hid (by rcases hf with ⟨_, h, _⟩ | ⟨h, _⟩; exact h.1; cases h)
  obtain ⟨d1, d2⟩ := posB_true hp
  have HH := Lib.hid h
  clear hsm0 hf h
  go_loopw [1] (fun kv wr => ∃ (j : Nat) (x y : Int), kv = .int .i64 ((k : Int) - j) ∧ j ≤ k ∧ Hid (x = (pwT d T U j).1 ∧ y = (pwT d T U j).2 ∧ ∀ i, i ≤ j → smallB (pwT d T U i).1 (pwT d T U i).2 = true) ∧ Hid (PB w wr sb pb T U x y)) (fun kv _ => (intOf kv).toNat)
  case atStart =>
    exact ⟨0, 2, 0, by simp, by omega, Lib.hid ⟨rfl, rfl, fun i hi => by have e : i = 0 := by { omega }; rw [e]; exact HS0.out⟩, hP⟩
  case round =>
    clear hP
    obtain ⟨j, x, y, rfl, hj, hX, hK⟩ := hrel
    by_cases hjk : j < k
    · have hgt : decide ((k : Int) - j > 0) = true := decide_eq_true (by omega)
      have hwk : wrap64 ((k : Int) - j - 1) = (k : Int) - j - 1 := by unfold wrap64; omega
      have hxy : smallB x y = true := by obtain ⟨rfl, rfl, h3⟩ := hX.out; exact h3 j (Nat.le_refl _)
      obtain ⟨p, hpp⟩ : ∃ p, pT d x y T U = p := ⟨_, rfl⟩
      obtain ⟨q, hqq⟩ : ∃ q, pU x y T U = q := ⟨_, rfl⟩
      have htm : Hid (∀ w1, Calls Try.prog 62 #[.int .i64 d, .agg #[.int .i64 x, .int .i64 y], .agg #[.int .i64 T, .int .i64 U]] w1 fun e w' => e = .returned (.agg #[.int .i64 p, .int .i64 q]) ∧ Below w1.heap.size w1 w') := Lib.hid fun w1 => by have := unProduct_any d x y T U w1 hp hxy hs; rwa [hpp, hqq] at this
      have hpI : I64 p := by rw [← hpp]; exact pT_I hp hxy hs
      have hsm : Hid (∀ w1, Calls Try.prog 61 #[.agg #[.int .i64 p, .int .i64 q]] w1 fun e w' => e = .returned (.bool (smallB p q)) ∧ Below w1.heap.size w1 w') := Lib.hid fun w1 => unSmall_any p q w1
      have HPQ : Hid (p = (pwT d T U (j + 1)).1 ∧ q = (pwT d T U (j + 1)).2) := Lib.hid (by
        obtain ⟨rfl, rfl, _⟩ := hX.out
        rw [pw_next d1 HSOL.out, ← hpp, ← hqq]
        exact ⟨rfl, rfl⟩)
      clear hpp hqq hpI hxy
      have cs := hK.out.s.cell
      have ls := hK.out.s.lt
      have cp := hK.out.p.cell
      have lp := hK.out.p.lt
      go_wp2_with fail
      refine (htm.out _).mono ?_
      rintro e1 w1 ⟨rfl, hB1⟩
      have hK1 := hK.out.below hB1
      have c1 := hK1.p.cell
      have f1 := hK1.p.froz
      have l1 := hK1.p.lt
      obtain ⟨w2, e2, k2, z2⟩ := hK1.set s1 s2 s3 p q
      have HK2 := Lib.hid k2
      have c2 := k2.p.cell
      have l2 := k2.p.lt
      clear hK hK1 hB1 k2 z2 cs ls cp lp htm
      go_wp2_with fail
      refine (hsm.out _).mono ?_
      rintro e3 w3 ⟨rfl, hB3⟩
      have HK3 := Lib.hid (HK2.out.below hB3)
      clear HK2 hB3 c1 f1 l1 e2 c2 l2 hsm
      cases hb : smallB p q with
      | true =>
        have HX1 : Hid (p = (pwT d T U (j + 1)).1 ∧ q = (pwT d T U (j + 1)).2 ∧ ∀ i, i ≤ j + 1 → smallB (pwT d T U i).1 (pwT d T U i).2 = true) := Lib.hid ⟨HPQ.out.1, HPQ.out.2, fun i hi => by
          rcases (show i ≤ j ∨ i = j + 1 by omega) with h | h
          · exact hX.out.2.2 i h
          · rw [h, ← HPQ.out.1, ← HPQ.out.2]; exact hb⟩
        clear hb
        go_wp2_with fail
        go_roundw
        case rel =>
          go_light
          exact ⟨j + 1, p, q, by go_num, by omega, HX1, HK3⟩
        case measure => simp [intOf]; omega
      | false =>
        have HNO : Hid (t = 0 ∧ u = 0 ∧ ok = false) := Lib.hid ((HH.out).unique (.inr ⟨rfl, rfl, rfl, j + 1, by omega, by rw [← HPQ.out.1, ← HPQ.out.2]; exact hb⟩))
        obtain ⟨rfl, rfl, rfl⟩ := HNO.out
        have c3 := HK3.out.r.cell
        have f3 := HK3.out.r.froz
        have l3 := HK3.out.r.lt
        obtain ⟨w4, e4, k4, z4, g4⟩ := HK3.out.r.set2 (.int .i64 0) (.int .i64 0)
        have c4 := k4.cell
        have l4 := k4.lt
        have HB4 := Lib.hid (below_grown HK3.out.b g4 (by omega) (by have := HK3.out.b.size; omega))
        clear hb k4 z4 g4 HK3
        go_wp2_with fail
        refine bodyPost_ret (v := .tuple #[.agg #[.int .i64 0, .int .i64 0], .bool false]) (by go_light; simp [results, Try.results48, go_sem, *]) rfl ⟨rfl, HB4.out⟩
    · have hgt : decide ((k : Int) - j > 0) = false := decide_eq_false (by omega)
      have HYES : Hid (t = x ∧ u = y ∧ ok = true) := Lib.hid ((HH.out).unique (by
        have e : j = k := by omega
        subst e
        obtain ⟨rfl, rfl, h3⟩ := hX.out
        exact .inl ⟨rfl, rfl, rfl, h3⟩))
      obtain ⟨rfl, rfl, rfl⟩ := HYES.out
      have cp := hK.out.p.cell
      have lp := hK.out.p.lt
      have c3 := hK.out.r.cell
      have f3 := hK.out.r.froz
      have l3 := hK.out.r.lt
      obtain ⟨w4, e4, k4, z4, g4⟩ := hK.out.r.set2 (.int .i64 t) (.int .i64 u)
      have c4 := k4.cell
      have l4 := k4.lt
      have HB4 := Lib.hid (below_grown hK.out.b g4 (by omega) (by have := hK.out.b.size; omega))
      clear k4 z4 g4 hK
      go_wp2_with fail
      refine bodyPost_ret (v := .tuple #[.agg #[.int .i64 t, .int .i64 u], .bool true]) (by go_light; simp [results, Try.results48, go_sem, *]) rfl ⟨rfl, HB4.out⟩
set_option maxHeartbeats 8000000 in
theorem unPower_no (d k T U : Int) (w : World) (hp : posB d = true) (hf : PFour d T U false) :
    Calls Try.prog 48 #[.int .i64 d, .int .i64 k] w fun en w' => en = .returned (.tuple #[.agg #[.int .i64 0, .int .i64 0], .bool false]) ∧ Below w.heap.size w w' := by
  have hcall := Lib.hid fun w1 => unFour_any d T U false w1 hp hf
  go_enter Try.func48, Try.ntmps48
  go_wp2_with fail
  refine (hcall.out _).mono ?_
  rintro e1 w1 ⟨⟨t', u', rfl, hv⟩, hB1⟩
  have k1 := ((Blk.new w 27 #[.int .i64 0, .int .i64 0]).alloc (.cells #[.int .i64 2, .int .i64 0] 27)).below hB1
  have b1 : Below w.heap.size w w1 := by repeat (first | with_reducible exact Below.refl _ _ | with_reducible assumption | ((with_reducible refine blA ?_ ?_); (focus (first | omega | (simp <;> omega)))) | (with_reducible refine blD ?_) | (with_reducible refine blN ?_) | ((with_reducible refine blS ?_ ?_); (focus (first | omega | (simp <;> omega)))) | ((with_reducible refine blT (by assumption) ?_ ?_); (focus (first | omega | (simp <;> omega)))))
  have K1 := Lib.hid k1
  have B1 := Lib.hid b1
  have l1 := k1.lt
  have l0 : w.heap.size < w1.heap.size := by have := hB1.size; simp at this; omega
  clear hB1 k1 b1 hcall hv hf
  have cK := K1.out.cell
  have fK := K1.out.froz
  have nK : ¬ w.heap.size = w1.heap.size := by omega
  have nK' : ¬ w1.heap.size = w.heap.size := by omega
  go_wp2_with fail
  have b1 := B1.out
  refine bodyPost_ret (v := .tuple #[.agg #[.int .i64 0, .int .i64 0], .bool false]) (by go_light; simp [results, Try.results48, go_sem, *]) rfl ⟨rfl, ?_⟩
  repeat (first | with_reducible exact Below.refl _ _ | with_reducible assumption | ((with_reducible refine blA ?_ ?_); (focus (first | omega | (simp <;> omega)))) | (with_reducible refine blD ?_) | (with_reducible refine blN ?_) | ((with_reducible refine blS ?_ ?_); (focus (first | omega | (simp <;> omega)))) | ((with_reducible refine blT (by assumption) ?_ ?_); (focus (first | omega | (simp <;> omega)))))
/-- What unPower returns. -/
def UP (d k t u : Int) (ok : Bool) : Prop := ∃ T U okf, PFour d T U okf ∧ ((okf = true ∧ PwR d T U k.toNat t u ok) ∨ (okf = false ∧ t = 0 ∧ u = 0 ∧ ok = false))
theorem UP.exist {d : Int} (hp : posB d = true) (k : Int) : ∃ t u ok, UP d k t u ok := by
  obtain ⟨T, U, okf, h⟩ := pf_exists d (by have := posB_true hp; omega)
  cases okf with
  | true =>
    obtain ⟨t, u, ok, h2⟩ := PwR.exist d T U k.toNat
    exact ⟨t, u, ok, T, U, true, h, .inl ⟨rfl, h2⟩⟩
  | false => exact ⟨0, 0, false, T, U, false, h, .inr ⟨rfl, rfl, rfl, rfl⟩⟩
theorem unPower_any (d k t u : Int) (ok : Bool) (w : World) (hp : posB d = true) (k0 : 0 ≤ k) (k1 : k ≤ 20) (h : UP d k t u ok) :
    Calls Try.prog 48 #[.int .i64 d, .int .i64 k] w fun en w' => en = .returned (.tuple #[.agg #[.int .i64 t, .int .i64 u], .bool ok]) ∧ Below w.heap.size w w' := by
  obtain ⟨T, U, okf, hf, h⟩ := h
  rcases h with ⟨rfl, h⟩ | ⟨rfl, rfl, rfl, rfl⟩
  · obtain ⟨hL, hS⟩ : Least d T U ∧ Small T U := by rcases hf with ⟨_, h1, h2⟩ | ⟨h1, _⟩; exact ⟨h1, h2⟩; cases h1
    have := unPower_yes d T U t u k.toNat ok w hp hf (hL.smallB hS) (by omega) h
    rwa [show ((k.toNat : Nat) : Int) = k by omega] at this
  · exact unPower_no d k T U w hp hf
set_option maxHeartbeats 8000000 in
theorem specPellPower_any (d k t u : Int) (ok : Bool) (w : World) (hd : I64 d) (h : PP d k t u ok) :
    Calls Try.prog 9 #[.int .i64 d, .int .i64 k] w fun en w' => en = .returned (.tuple #[.agg #[.int .i64 t, .int .i64 u], .bool ok]) ∧ Below w.heap.size w w' := by
  obtain ⟨T, U, okf, hf, h⟩ := h
  have hin := Lib.hid fun w1 => l1In_any k 0 20 w1
  have hdisc := Lib.hid fun w1 => cyDisc_any d w1 hd
  rcases hf with ⟨hp, hf⟩ | ⟨hp, rfl, rfl, rfl⟩
  · rw [hp] at hdisc
    cases hi : inB k 0 20 with
    | true =>
      have hk : 0 ≤ k ∧ k ≤ 20 := by unfold inB at hi; simpa using hi
      rw [hi] at hin
      have hup : UP d k t u ok := by
        rcases h with ⟨rfl, _, _, h⟩ | ⟨hn, rfl, rfl, rfl⟩
        · exact ⟨T, U, true, hf, .inl ⟨rfl, h⟩⟩
        · cases okf with
          | true => exact absurd ⟨rfl, hk⟩ hn
          | false => exact ⟨T, U, false, hf, .inr ⟨rfl, rfl, rfl, rfl⟩⟩
      have hcall := Lib.hid fun w1 => unPower_any d k t u ok w1 hp hk.1 hk.2 hup
      clear h hf hup hi hk
      go_enter Try.func9, Try.ntmps9
      go_wp2_with (first | (go_at_call 46; refine (hdisc.out _).mono ?_; rintro e w' ⟨rfl, rfl⟩) | (go_at_call 47; refine (hin.out _).mono ?_; rintro e w' ⟨rfl, rfl⟩) | (go_at_call 48; refine (hcall.out _).mono ?_; rintro e w' ⟨rfl, hB⟩; obtain ⟨hC, hF⟩ := bcell hB; have hS := hB.size; (try simp at hS); (try have hSl := Nat.lt_of_succ_le hS); (try have hS0 : w.heap.size < w'.heap.size := by omega); (try have hS1 : w.heap.size + 1 < w'.heap.size := by omega); (try have hS2 : w.heap.size + 1 + 1 < w'.heap.size := by omega); (try have hS3 : w.heap.size + 1 + 1 + 1 < w'.heap.size := by omega)))
      refine bodyPost_ret (v := .tuple #[.agg #[.int .i64 t, .int .i64 u], .bool ok]) (by go_light; simp [results, Try.results9, go_sem, *]) rfl ⟨rfl, ?_⟩
      repeat (first | with_reducible exact Below.refl _ _ | with_reducible assumption | ((with_reducible refine blA ?_ ?_); (focus (first | omega | (simp <;> omega)))) | (with_reducible refine blD ?_) | (with_reducible refine blN ?_) | ((with_reducible refine blS ?_ ?_); (focus (first | omega | (simp <;> omega)))) | ((with_reducible refine blT (by assumption) ?_ ?_); (focus (first | omega | (simp <;> omega)))))
    | false =>
      rw [hi] at hin
      obtain ⟨rfl, rfl, rfl⟩ : t = 0 ∧ u = 0 ∧ ok = false := by
        rcases h with ⟨_, h1, h2, _⟩ | ⟨_, h⟩
        · unfold inB at hi
          rw [decide_eq_true ⟨h1, h2⟩] at hi
          cases hi
        · exact h
      go_enter Try.func9, Try.ntmps9
      go_wp2_with (first | (go_at_call 46; refine (hdisc.out _).mono ?_; rintro e w' ⟨rfl, rfl⟩) | (go_at_call 47; refine (hin.out _).mono ?_; rintro e w' ⟨rfl, rfl⟩))
      refine bodyPost_ret (v := .tuple #[.agg #[.int .i64 0, .int .i64 0], .bool false]) (by go_light; simp [results, Try.results9, go_sem, *]) rfl ⟨rfl, ?_⟩
      repeat (first | with_reducible exact Below.refl _ _ | with_reducible assumption | ((with_reducible refine blA ?_ ?_); (focus (first | omega | (simp <;> omega)))) | (with_reducible refine blD ?_) | (with_reducible refine blN ?_) | ((with_reducible refine blS ?_ ?_); (focus (first | omega | (simp <;> omega)))) | ((with_reducible refine blT (by assumption) ?_ ?_); (focus (first | omega | (simp <;> omega)))))
  · rw [hp] at hdisc
    obtain ⟨rfl, rfl, rfl⟩ : t = 0 ∧ u = 0 ∧ ok = false := by
      rcases h with ⟨h, _⟩ | ⟨_, h⟩
      · cases h
      · exact h
    go_enter Try.func9, Try.ntmps9
    go_wp2_with (first | (go_at_call 46; refine (hdisc.out _).mono ?_; rintro e w' ⟨rfl, rfl⟩))
    refine bodyPost_ret (v := .tuple #[.agg #[.int .i64 0, .int .i64 0], .bool false]) (by go_light; simp [results, Try.results9, go_sem, *]) rfl ⟨rfl, ?_⟩
    repeat (first | with_reducible exact Below.refl _ _ | with_reducible assumption | ((with_reducible refine blA ?_ ?_); (focus (first | omega | (simp <;> omega)))) | (with_reducible refine blD ?_) | (with_reducible refine blN ?_) | ((with_reducible refine blS ?_ ?_); (focus (first | omega | (simp <;> omega)))) | ((with_reducible refine blT (by assumption) ?_ ?_); (focus (first | omega | (simp <;> omega)))))
end Go.Proofs.Ytemnkfigjpphgaa
