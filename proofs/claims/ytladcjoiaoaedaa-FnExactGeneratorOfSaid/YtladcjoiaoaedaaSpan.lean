/-
  The reference's ways to a lattice's normal form: the walks. Its variables lie in memory.
-/
import Derived.Test.YtladcjoiaoaedaaHermW
namespace Go.Proofs.Ytladcjoiaoaedaa
open Go.RowKit
attribute [local simp, local go_sem] past_cell past_frozen past_tape
/-- One pair of integers in a block of the call's own. -/
structure One (w wr : World) (V : Nat) (X Y : Int) : Prop where
  hV : ∀ o, wr.cell? ⟨V, o, none⟩ = (#[.int .i64 X, .int .i64 Y] : Array Value)[o]?
  hVf : ∀ o, wr.frozen? ⟨V, o, none⟩ = false
  ltV : w.heap.size ≤ V
  sz : V < wr.heap.size
  below : Below w.heap.size w wr
/-- Two of them. -/
structure Two (w wr : World) (V Q : Nat) (X Y u v : Int) : Prop where
  one : One w wr V X Y
  hQ : ∀ o, wr.cell? ⟨Q, o, none⟩ = (#[.int .i64 u, .int .i64 v] : Array Value)[o]?
  hQf : ∀ o, wr.frozen? ⟨Q, o, none⟩ = false
  VQ : V < Q
  sz : Q < wr.heap.size
theorem pair_set (w1 : World) (B : Nat) (a b x y : Int) (h : ∀ o, w1.cell? ⟨B, o, none⟩ = (#[.int .i64 a, .int .i64 b] : Array Value)[o]?) (o : Nat) :
    ((w1.setCell ⟨B, 0, none⟩ (.int .i64 x)).setCell ⟨B, 1, none⟩ (.int .i64 y)).cell? ⟨B, o, none⟩ = (#[.int .i64 x, .int .i64 y] : Array Value)[o]? := by
  match o with
  | 0 => rw [set_other _ _ _ _ _ _ (by omega), set_same _ _ _ _ _ (h 0)]; rfl
  | 1 => rw [set_same _ _ _ _ (.int .i64 b) (by rw [set_other _ _ _ _ _ _ (by omega), h]; rfl)]; rfl
  | n + 2 => rw [set_other _ _ _ _ _ _ (by omega), set_other _ _ _ _ _ _ (by omega), h]; rfl
theorem pair_far (w1 : World) (B C : Nat) (x y : Value) (h : B ≠ C) (o : Nat) : ((w1.setCell ⟨B, 0, none⟩ x).setCell ⟨B, 1, none⟩ y).cell? ⟨C, o, none⟩ = w1.cell? ⟨C, o, none⟩ := by
  rw [set_other _ _ _ _ _ _ (by omega), set_other _ _ _ _ _ _ (by omega)]
theorem One.set {w wr w1 : World} {V : Nat} {X Y : Int} (hB : Below wr.heap.size wr w1) (h : One w wr V X Y) (x y : Int) : One w ((w1.setCell ⟨V, 0, none⟩ (.int .i64 x)).setCell ⟨V, 1, none⟩ (.int .i64 y)) V x y := by
  have hz := hB.size
  have hsz := h.sz
  have hlt := h.ltV
  refine ⟨pair_set w1 V X Y x y fun o => by rw [bG hB hsz, h.hV], fun i => ?_, hlt, by simp; omega, ?_⟩
  · simp [go_sem, fG hB hsz, h.hVf]
  · have hb := h.below
    have hbs := hb.size
    repeat (first | with_reducible exact Below.refl _ _ | with_reducible assumption | ((with_reducible refine blA ?_ ?_); (focus (first | omega | (simp <;> omega)))) | (with_reducible refine blD ?_) | (with_reducible refine blN ?_) | ((with_reducible refine blS ?_ ?_); (focus (first | omega | (simp <;> omega)))) | ((with_reducible refine blT (by assumption) ?_ ?_); (focus (first | omega | (simp <;> omega)))))
theorem One.later {w wr w1 : World} {V : Nat} {X Y : Int} (h : One w wr V X Y) (hB : Below wr.heap.size wr w1) : One w w1 V X Y := by
  have hz := hB.size
  have hsz := h.sz
  refine ⟨fun o => by rw [bG hB hsz, h.hV], fun o => by rw [fG hB hsz, h.hVf], h.ltV, by omega, ?_⟩
  have hb := h.below
  have hbs := hb.size
  repeat (first | with_reducible exact Below.refl _ _ | with_reducible assumption | ((with_reducible refine blA ?_ ?_); (focus (first | omega | (simp <;> omega)))) | (with_reducible refine blD ?_) | (with_reducible refine blN ?_) | ((with_reducible refine blS ?_ ?_); (focus (first | omega | (simp <;> omega)))) | ((with_reducible refine blT (by assumption) ?_ ?_); (focus (first | omega | (simp <;> omega)))))
theorem One.set0 {w wr w1 : World} {V : Nat} {X Y : Int} (hB : Below wr.heap.size wr w1) (h : One w wr V X Y) (x : Int) : One w (w1.setCell ⟨V, 0, none⟩ (.int .i64 x)) V x Y := by
  have hz := hB.size
  have hsz := h.sz
  have hlt := h.ltV
  have hc : ∀ o, w1.cell? ⟨V, o, none⟩ = (#[.int .i64 X, .int .i64 Y] : Array Value)[o]? := fun o => by rw [bG hB hsz, h.hV]
  refine ⟨fun o => ?_, fun i => ?_, hlt, by simp; omega, ?_⟩
  · match o with
    | 0 => rw [set_same _ _ _ _ _ (hc 0)]; rfl
    | n + 1 => rw [set_other _ _ _ _ _ _ (by omega), hc]; rfl
  · simp [go_sem, fG hB hsz, h.hVf]
  · have hb := h.below
    have hbs := hb.size
    repeat (first | with_reducible exact Below.refl _ _ | with_reducible assumption | ((with_reducible refine blA ?_ ?_); (focus (first | omega | (simp <;> omega)))) | (with_reducible refine blD ?_) | (with_reducible refine blN ?_) | ((with_reducible refine blS ?_ ?_); (focus (first | omega | (simp <;> omega)))) | ((with_reducible refine blT (by assumption) ?_ ?_); (focus (first | omega | (simp <;> omega)))))
theorem Two.next {w wr w1 : World} {V Q : Nat} {X Y u v : Int} (hB : Below wr.heap.size wr w1) (h : Two w wr V Q X Y u v) (x y : Int) :
    Two w ((((w1.setCell ⟨V, 0, none⟩ (.int .i64 u)).setCell ⟨V, 1, none⟩ (.int .i64 v)).setCell ⟨Q, 0, none⟩ (.int .i64 x)).setCell ⟨Q, 1, none⟩ (.int .i64 y)) V Q u v x y := by
  have hz := hB.size
  have hsz := h.sz
  have hlt := h.VQ
  have o1 := h.one.set hB u v
  have hlV := h.one.ltV
  refine ⟨⟨fun o => ?_, fun o => ?_, hlV, by simp; omega, ?_⟩, pair_set _ Q u v x y fun o => ?_, fun o => ?_, hlt, by simp; omega⟩
  · rw [pair_far _ _ _ _ _ (by omega), o1.hV]
  · simp [go_sem, fG hB h.one.sz, h.one.hVf]
  · have hb := h.one.below
    have hbs := hb.size
    repeat (first | with_reducible exact Below.refl _ _ | with_reducible assumption | ((with_reducible refine blA ?_ ?_); (focus (first | omega | (simp <;> omega)))) | (with_reducible refine blD ?_) | (with_reducible refine blN ?_) | ((with_reducible refine blS ?_ ?_); (focus (first | omega | (simp <;> omega)))) | ((with_reducible refine blT (by assumption) ?_ ?_); (focus (first | omega | (simp <;> omega)))))
  · rw [pair_far _ _ _ _ _ (by omega), bG hB hsz, h.hQ]
  · simp [go_sem, fG hB hsz, h.hQf]
theorem Two.start {w wr : World} {V : Nat} {X Y : Int} (h : One w wr V X Y) (u v : Int) (T : TypeId) : Two w (wr.alloc (.cells #[.int .i64 u, .int .i64 v] T)) V wr.heap.size X Y u v := by
  have hsz := h.sz
  refine ⟨⟨fun o => ?_, fun o => ?_, h.ltV, by simp; omega, ?_⟩, fun o => by simp [go_sem], fun o => by simp [go_sem], hsz, by simp⟩
  · rw [cell_alloc_old _ _ _ _ hsz, h.hV]
  · rw [frozen_alloc_old _ _ _ _ hsz, h.hVf]
  · have hb := h.below
    have hbs := hb.size
    repeat (first | with_reducible exact Below.refl _ _ | with_reducible assumption | ((with_reducible refine blA ?_ ?_); (focus (first | omega | (simp <;> omega)))) | (with_reducible refine blD ?_) | (with_reducible refine blN ?_) | ((with_reducible refine blS ?_ ?_); (focus (first | omega | (simp <;> omega)))) | ((with_reducible refine blT (by assumption) ?_ ?_); (focus (first | omega | (simp <;> omega)))))
theorem half_bd {n E : Int} (hn : 0 ≤ n) (hE : 1 ≤ E) : 0 ≤ n / (2 * E) ∧ 2 * (n / (2 * E)) ≤ n := by
  have h0 : 0 ≤ n / (2 * E) := Int.ediv_nonneg hn (by omega)
  have h1 := Int.ediv_mul_le n (show 2 * E ≠ 0 by omega)
  have h2 := Int.mul_le_mul_of_nonneg_left (show 2 ≤ 2 * E by omega) h0
  exact ⟨h0, by omega⟩
theorem Two.later {w wr w1 : World} {V Q : Nat} {X Y u v : Int} (h : Two w wr V Q X Y u v) (hB : Below wr.heap.size wr w1) : Two w w1 V Q X Y u v := by
  have hz := hB.size
  have hsz := h.sz
  exact ⟨h.one.later hB, fun o => by rw [bG hB hsz, h.hQ], fun o => by rw [fG hB hsz, h.hQf], h.VQ, by omega⟩
/-- A state's numbers are small. -/
structure GoodS (n U V : Int) : Prop where
  n0 : 0 ≤ n
  n1 : n ≤ 4000000000000000000
  u : K4 U
  v : K4 V
theorem goodS_step {n U V : Int} {v : Int × Int} (h : GoodS n U V) (hf : FitI 0 (n, U, V) v) : GoodS (iStep (n, U, V) v).1 (iStep (n, U, V) v).2.1 (iStep (n, U, V) v).2.2 := by
  obtain ⟨Y, S, M, hS, hI⟩ := hf
  obtain ⟨e1, e2, e3⟩ := fit_end hS hI
  rw [← eucS_eq] at e1 e2 e3
  exact ⟨by show (0 : Int) ≤ (Int.gcd _ _ : Int); omega, gcd_k4 h.n0 h.n1 e3, e1, e2⟩
set_option maxRecDepth 100000 in
set_option maxHeartbeats 4000000 in
theorem idSpan_any (l : List (Int × Int)) (g c : Nat) (w : World) (n U V : Int) (hl : l.length ≤ 1000) (hg : g < w.heap.size) (hc : ∀ k, k < l.length → w.cell? ⟨g, k * 2, none⟩ = some (.int .i64 ((l.getD k (0, 0)).1)) ∧ w.cell? ⟨g, k * 2 + 1, none⟩ = some (.int .i64 ((l.getD k (0, 0)).2)))
    (hfit : ∀ k, k < l.length → FitI 0 ((l.take k).foldl iStep (0, 0, 0)) (l.getD k (0, 0))) (hfin : l.foldl iStep (0, 0, 0) = (n, U, V)) (hV : V ≠ 0) (hA : 1 ≤ n / (2 * (V.natAbs : Int))) :
    Calls Try.prog 77 #[.slice (some ⟨g, 0, none⟩) l.length c] w fun en w' => en = .returned (.agg #[.int .i64 (V.natAbs : Int), .int .i64 (n / (2 * (V.natAbs : Int))), .int .i64 (((-(if V < 0 then -U else U)).tdiv (V.natAbs : Int)) % (2 * (n / (2 * (V.natAbs : Int)))))]) ∧ Below w.heap.size w w' := by
  have HC := Lib.hid hc
  have HF := Lib.hid hfit
  have HFin := Lib.hid hfin
  have HV := Lib.hid hV
  have HA := Lib.hid hA
  clear hc hfit hfin hV hA
  go_enter Try.func77, Try.ntmps77
  go_wp2
  go_loopw [4, 13] (fun sn i wr => ∃ k : Nat, ∃ n U V : Int, k ≤ l.length ∧ i = .int .i64 (k : Int) ∧ sn = .int .i64 n ∧ Hid ((l.take k).foldl iStep (0, 0, 0) = (n, U, V)) ∧ GoodS n U V ∧ One w wr (w.heap.size + 1) U V ∧ Hid (∀ o, wr.cell? ⟨w.heap.size, o, none⟩ = (#[.int .i64 0, .int .i64 0, .int .i64 0] : Array Value)[o]?) ∧ Hid (∀ o, wr.frozen? ⟨w.heap.size, o, none⟩ = false)) (fun _ i _ => l.length - (intOf i).toNat)
  case atStart =>
    refine ⟨0, 0, 0, 0, Nat.zero_le _, rfl, rfl, rfl, ⟨by omega, by omega, ⟨by omega, by omega⟩, ⟨by omega, by omega⟩⟩, ?_, ?_, ?_⟩
    · refine ⟨fun o => by simp [go_sem], fun o => by simp [go_sem], by omega, by simp, ?_⟩
      repeat (first | with_reducible exact Below.refl _ _ | with_reducible assumption | ((with_reducible refine blA ?_ ?_); (focus (first | omega | (simp <;> omega)))) | (with_reducible refine blD ?_) | (with_reducible refine blN ?_) | ((with_reducible refine blS ?_ ?_); (focus (first | omega | (simp <;> omega)))) | ((with_reducible refine blT (by assumption) ?_ ?_); (focus (first | omega | (simp <;> omega)))))
    · show ∀ o, _ = _
      intro o; simp [go_sem]
    · show ∀ o, _ = _
      intro o; simp [go_sem]
  case round =>
    obtain ⟨k, n', U', V', hk, rfl, rfl, hst, hgood, hone, hR, hRf⟩ := hrel
    obtain ⟨wo, rfl⟩ : ∃ wo : World, wo = wr := ⟨_, rfl⟩
    have hzo := hone.sz
    by_cases hlt : k < l.length
    · have hcell := HC.out k hlt
      have hf := HF.out k hlt
      have HN := Lib.hid (take_next l iStep (0, 0, 0) k hlt)
      rw [hst.out] at hf
      generalize l.getD k (0, 0) = v at *
      obtain ⟨x0, y0⟩ := v
      have hc1 : wo.cell? ⟨g, k * 2, none⟩ = some (.int .i64 x0) := by rw [bG hone.below hg]; exact hcell.1
      have hc2 : wo.cell? ⟨g, k * 2 + 1, none⟩ = some (.int .i64 y0) := by rw [bG hone.below hg]; exact hcell.2
      have hz := hone.below.size
      have hg' : g < wo.heap.size := by omega
      obtain ⟨Y, S, M, hS, hI⟩ := hf
      have HS := Lib.hid hS
      have HI := Lib.hid hI
      have HG := Lib.hid hgood
      have HO := Lib.hid hone
      clear hcell hS hI hgood hone
      go_wp2
      go_loopw [7] (fun _ wr => ∃ B D X y : Int, Hid (Two w wr (w.heap.size + 1) wo.heap.size B D X y) ∧ HInv 0 Y S M B D X y ∧ Hid (eucS y.natAbs B D X y = eucS y0.natAbs U' V' x0 y0) ∧ Hid (∀ o, wr.cell? ⟨w.heap.size, o, none⟩ = (#[.int .i64 0, .int .i64 0, .int .i64 0] : Array Value)[o]?) ∧ Hid (∀ o, wr.frozen? ⟨w.heap.size, o, none⟩ = false)) (fun _ wr => (intOf ((wr.cell? ⟨wo.heap.size, 1, none⟩).getD undef)).natAbs)
      case atStart =>
        refine ⟨U', V', x0, y0, Two.start HO.out x0 y0 _, HI.out, rfl, ?_, ?_⟩
        · show ∀ o, _ = _
          intro o
          rw [cell_alloc_old _ _ _ _ (by omega), hR.out]
        · show ∀ o, _ = _
          intro o
          rw [frozen_alloc_old _ _ _ _ (by omega), hRf.out]
      case round =>
        obtain ⟨B, D, X, y, htwo, hinv, heq, hR2, hRf2⟩ := hrel
        have hQ := htwo.out.hQ
        have hQf := htwo.out.hQf
        have hV := htwo.out.one.hV
        have hVf := htwo.out.one.hVf
        have hszQ := htwo.out.sz
        have hszV := htwo.out.one.sz
        by_cases hy : y = 0
        · subst hy
          have hend : Hid (eucS y0.natAbs U' V' x0 y0 = (B, D, X)) := by show _ = _; rw [← heq.out]; rfl
          obtain ⟨kX1, kX2⟩ := hinv.hx.k4 HS.out.M4
          have jX : J64 X := ⟨by omega, by omega⟩
          have jA : J64 n' := ⟨by have := HG.out.n0; omega, by have := HG.out.n1; omega⟩
          have hstep : Hid (iStep (n', U', V') (x0, y0) = ((Int.gcd n' X : Int), B, D)) := by
            show _ = _
            simp only [iStep, hend.out]
          have hgood' : Hid (GoodS (Int.gcd n' X : Int) B D) := by
            have := goodS_step (v := (x0, y0)) HG.out ⟨Y, S, M, HS.out, HI.out⟩
            rwa [hstep.out] at this
          have hst' : Hid ((l.take (k + 1)).foldl iStep (0, 0, 0) = ((Int.gcd n' X : Int), B, D)) := by
            show _ = _
            rw [HN.out, hst.out, hstep.out]
          clear hend hstep
          go_wp2_with (go_at_call 103; refine (nuGcd_any _ _ _ jA jX).mono ?_; rintro e w' ⟨rfl, nq, rfl⟩)
          go_roundw
          case rel =>
            go_light
            refine ⟨k + 1, _, B, D, by omega, by go_num, rfl, hst'.out, hgood'.out, ?_, ?_, ?_⟩
            · exact One.later htwo.out.one (below_drewN (Below.refl _ _) _)
            · show ∀ o, _ = _
              intro o
              simp [go_sem, hR2.out]
            · show ∀ o, _ = _
              intro o
              simp [go_sem, hRf2.out]
          case measure => simp [intOf]; omega
        · obtain ⟨⟨f1, f2⟩, ⟨f3, f4⟩, ⟨f5, f6⟩, ⟨f7, f8⟩, ⟨f9, f10⟩, hnext⟩ := h_facts HS.out hinv hy
          have hlt2 := Lib.hid (rem_lt D hy)
          have heq2 := Lib.hid (eucS_step B D X hy)
          have HX := Lib.hid hnext
          clear hnext hinv
          go_wp2_with fail
          go_region
          go_wp2
          go_roundw
          case rel =>
            go_light
            have hnx := HX.out
            rw [show red 0 (B - D.tdiv y * X) = B - D.tdiv y * X by simp [red]] at hnx
            refine ⟨X, y, _, _, (Two.next (Below.refl _ _) htwo.out _ _).later (Below.refl _ _).drew, hnx, by show _ = _; rw [← heq.out, heq2.out], ?_, ?_⟩
            · show ∀ o, _ = _
              intro o
              have hne : ¬ w.heap.size = wo.heap.size := by omega
              have hne2 : ¬ wo.heap.size = w.heap.size := by omega
              rw [World.cell?_drew, set_other _ _ _ _ _ _ (by omega), set_other _ _ _ _ _ _ (by omega), set_other _ _ _ _ _ _ (by omega), set_other _ _ _ _ _ _ (by omega), hR2.out]
            · show ∀ o, _ = _
              intro o
              simp [go_sem, hRf2.out]
          case measure =>
            rw [((Two.next (Below.refl _ _) htwo.out _ _).later (Below.refl _ _).drew).hQ, hQ]
            exact hlt2.out
    · have hkl : k = l.length := by omega
      have e := hst.out
      rw [hkl, List.take_of_length_le (Nat.le_refl _), HFin.out] at e
      simp only [Prod.mk.injEq] at e
      obtain ⟨rfl, rfl, rfl⟩ := e
      obtain ⟨n0, n1, ⟨u1, u2⟩, ⟨v1, v2⟩⟩ := hgood
      have hV := hone.hV
      have hVf := hone.hVf
      have hbelow := hone.below
      have HO := Lib.hid hone
      have hRc := hR.out
      have hRfc := hRf.out
      clear hone
      by_cases hneg : V < 0
      · have hE : (V.natAbs : Int) = -V := by omega
        have hA := HA.out
        rw [hE] at hA
        obtain ⟨q1, q2⟩ := half_bd n0 (show 1 ≤ -V by omega)
        obtain ⟨t1, t2⟩ := tdiv_bd V (show Bd 4000000000000000000 U from ⟨by omega, by omega⟩)
        have HE := Lib.hid hE
        clear hE
        go_wp2_with (go_at_call 44; refine (nuMod_any _ _ _ ⟨by omega, by omega⟩ (by omega) (by omega)).mono ?_; rintro e w' ⟨rfl, rfl⟩)
        (refine bodyPost_ret (v := .agg #[.int .i64 (-V), .int .i64 (n / (2 * -V)), .int .i64 ((-U.tdiv V) % (2 * (n / (2 * -V))))]) ?_ rfl ⟨?_, ?_⟩; (focus (go_light; first | (simp [results, Try.results77, go_sem, *]; done) | (simp (disch := first | omega | (simp <;> omega) | (refine isSome_of ?_ ?_; (focus ((repeat (first | ((with_reducible refine (cell_alloc_old _ _ _ _ ?_).trans ?_); (focus (first | omega | (simp <;> omega)))) | ((with_reducible refine (bG (by assumption) ?_).trans ?_); (focus (first | omega | (simp <;> omega)))))); exact rfl)); simp [go_sem]) | fail) [results, Try.results77, go_sem, *]; done))); (focus (go_light; rw [HE.out]; (try simp [Int.tdiv_neg, Int.neg_tdiv]))); repeat (first | with_reducible exact Below.refl _ _ | with_reducible assumption | ((with_reducible refine blA ?_ ?_); (focus (first | omega | (simp <;> omega)))) | (with_reducible refine blD ?_) | (with_reducible refine blN ?_) | ((with_reducible refine blS ?_ ?_); (focus (first | omega | (simp <;> omega)))) | ((with_reducible refine blT (by assumption) ?_ ?_); (focus (first | omega | (simp <;> omega))))))
      · have hE : (V.natAbs : Int) = V := by have := HV.out; omega
        have hpos : 0 < V := by have := HV.out; omega
        have hA := HA.out
        rw [hE] at hA
        obtain ⟨q1, q2⟩ := half_bd n0 (show 1 ≤ V by omega)
        obtain ⟨t1, t2⟩ := tdiv_bd V (show Bd 4000000000000000000 U from ⟨by omega, by omega⟩)
        have HE := Lib.hid hE
        clear hE
        go_wp2_with (go_at_call 44; refine (nuMod_any _ _ _ ⟨by omega, by omega⟩ (by omega) (by omega)).mono ?_; rintro e w' ⟨rfl, rfl⟩)
        (refine bodyPost_ret (v := .agg #[.int .i64 V, .int .i64 (n / (2 * V)), .int .i64 ((-U.tdiv V) % (2 * (n / (2 * V))))]) ?_ rfl ⟨?_, ?_⟩; (focus (go_light; first | (simp [results, Try.results77, go_sem, *]; done) | (simp (disch := first | omega | (simp <;> omega) | (refine isSome_of ?_ ?_; (focus ((repeat (first | ((with_reducible refine (cell_alloc_old _ _ _ _ ?_).trans ?_); (focus (first | omega | (simp <;> omega)))) | ((with_reducible refine (bG (by assumption) ?_).trans ?_); (focus (first | omega | (simp <;> omega)))))); exact rfl)); simp [go_sem]) | fail) [results, Try.results77, go_sem, *]; done))); (focus (go_light; rw [HE.out]; (try simp [Int.tdiv_neg, Int.neg_tdiv]))); repeat (first | with_reducible exact Below.refl _ _ | with_reducible assumption | ((with_reducible refine blA ?_ ?_); (focus (first | omega | (simp <;> omega)))) | (with_reducible refine blD ?_) | (with_reducible refine blN ?_) | ((with_reducible refine blS ?_ ?_); (focus (first | omega | (simp <;> omega)))) | ((with_reducible refine blT (by assumption) ?_ ?_); (focus (first | omega | (simp <;> omega))))))
end Go.Proofs.Ytladcjoiaoaedaa
