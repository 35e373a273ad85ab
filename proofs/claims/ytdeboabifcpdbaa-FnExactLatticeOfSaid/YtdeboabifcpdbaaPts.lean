/-
  Lists of points: the law's copies of its argument.
-/
import Derived.Test.YtdeboabifcpdbaaLaSum
import Derived.Test.YtdeboabifcpdbaaLatM
namespace Go.Proofs.Ytdeboabifcpdbaa
open Go.RowKit
attribute [local simp, local go_sem] past_cell past_frozen past_tape
theorem szPointS_any (a : Option Addr) (len cap : Nat) (left : Int) (w : World) (hl : len ≤ 9223372036854775807) (h : left = 1048576) :
    Calls Try.prog 49 #[.slice a len cap, .int .i64 left] w fun en w' => en = .returned (.int .i64 (if 1048576 < (len : Int) then -1 else 1048576 - (len : Int))) ∧ w = w' := by
  subst h
  by_cases c : 1048576 < (len : Int)
  · rw [if_pos c]
    go_enter Try.func49, Try.ntmps49
    go_wp2
    go_ret
    exact ⟨rfl, rfl⟩
  · rw [if_neg c]
    go_enter Try.func49, Try.ntmps49
    go_wp2
    go_ret
    exact ⟨rfl, rfl⟩
/-- A list of points in memory. -/
def PRow (w : World) (a : Option Addr) (len : Nat) (zs : List (Int × Int)) : Prop := zs.length = len ∧ (len = 0 ∨ ∃ b off, a = some ⟨b, off, none⟩ ∧ b < w.heap.size ∧ ∀ k, k < len → w.cell? ⟨b, off + k * 2, none⟩ = some (.int .i64 ((zs.getD k (0, 0)).1)) ∧ w.cell? ⟨b, off + k * 2 + 1, none⟩ = some (.int .i64 ((zs.getD k (0, 0)).2)))
/-- A list of points that came in. -/
def PArg (w : World) (a : Option Addr) (len : Nat) (zs : List (Int × Int)) : Prop := zs.length = len ∧ (len = 0 ∨ ∃ ad, a = some ad ∧ ad.block < w.heap.size ∧ ∀ k, k < len → w.cell? (ad.add (k * 2)) = some (.int .i64 ((zs.getD k (0, 0)).1)) ∧ w.cell? (ad.add (k * 2 + 1)) = some (.int .i64 ((zs.getD k (0, 0)).2)))
theorem add_block (a : Addr) (n : Nat) : (a.add n).block = a.block := by unfold Addr.add; split <;> rfl
theorem add_next (a : Addr) (n : Nat) : (⟨(a.add n).block, (a.add n).off + 1, none⟩ : Addr) = a.add (n + 1) := by
  unfold Addr.add
  rw [if_neg (show ¬ n + 1 = 0 by omega)]
  split
  · rename_i h; subst h; rfl
  · rfl
theorem PArg.later {w w' : World} {a : Option Addr} {len : Nat} {zs : List (Int × Int)} (h : PArg w a len zs) (hb : Below w.heap.size w w') : PArg w' a len zs := by
  refine ⟨h.1, ?_⟩
  rcases h.2 with h0 | ⟨ad, h1, h2, h3⟩
  · exact .inl h0
  · have := hb.size
    exact .inr ⟨ad, h1, by omega, fun k hk => by rw [hb.cell (by rw [add_block]; exact h2), hb.cell (by rw [add_block]; exact h2)]; exact h3 k hk⟩
theorem PRow.later {w w' : World} {a : Option Addr} {len : Nat} {zs : List (Int × Int)} (h : PRow w a len zs) (hb : Below w.heap.size w w') : PRow w' a len zs := by
  refine ⟨h.1, ?_⟩
  rcases h.2 with h0 | ⟨b, off, h1, h2, h3⟩
  · exact .inl h0
  · have := hb.size
    exact .inr ⟨b, off, h1, by omega, fun k hk => by rw [bG hb h2, bG hb h2]; exact h3 k hk⟩
set_option maxRecDepth 100000 in
set_option maxHeartbeats 4000000 in
theorem toPointS_any (a : Option Addr) (len cap : Nat) (zs : List (Int × Int)) (w : World) (h : PArg w a len zs) (hl : len ≤ 1048576) (hlc : len ≤ cap) :
    Calls Try.prog 51 #[.slice a len cap] w fun en w' => ∃ g, en = .returned (.slice (some ⟨g, 0, none⟩) len len) ∧ w.heap.size ≤ g ∧ g < w'.heap.size ∧ PRow w' (some ⟨g, 0, none⟩) len zs ∧ Below w.heap.size w w' := by
  obtain ⟨i, hi1, hiz, hisz, hiby⟩ := info_parts (P := Try.prog) (e := 36) (z := .agg #[.int .i64 0, .int .i64 0]) (size := 2) (bytes := 16) (by kernel_rfl)
  obtain ⟨hz, h⟩ := h
  go_enter Try.func51, Try.ntmps51
  go_wp2_with (at_make; refine wpList_make_full _ rfl _ _ _ rfl w.heap.size 36 i (.agg #[.int .i64 0, .int .i64 0]) 2 (by kernel_rfl) hi1 hiz hisz .i64 .i64 len len len rfl rfl rfl rfl (by rw [hiby]; omega) (by unfold maxLen; omega) (Nat.le_refl _) ?_; intro wm hown hgrow)
  have hB : Below w.heap.size w wm := Below.grown (Below.refl _ _) hgrow (Nat.le_refl _) (fun k hk => by cases hk)
  have hsz : w.heap.size < wm.heap.size := (hown.lt _ rfl).2
  have hmc : Hid (∀ j, j < len * 2 → ∃ v, wm.cell? ⟨w.heap.size, j, none⟩ = some v) := by
    show ∀ j, _ → _
    intro j hj
    rw [hown.cellAt j hj]
    refine ⟨_, List.getElem?_eq_getElem (by rw [hown.1]; exact hj)⟩
  have hmf : Hid (∀ o, wm.frozen? ⟨w.heap.size, o, none⟩ = false) := fun o => hown.frozenAt o
  have HB := Lib.hid hB
  have HH := Lib.hid h
  clear hown hgrow hB h
  go_wp2
  go_loopw [4] (fun i wr => ∃ k : Nat, k ≤ len ∧ i = .int .i64 (k : Int) ∧ Hid (∀ j, j < k → wr.cell? ⟨w.heap.size, j * 2, none⟩ = some (.int .i64 ((zs.getD j (0, 0)).1)) ∧ wr.cell? ⟨w.heap.size, j * 2 + 1, none⟩ = some (.int .i64 ((zs.getD j (0, 0)).2))) ∧ Hid (∀ j, j < len * 2 → ∃ v, wr.cell? ⟨w.heap.size, j, none⟩ = some v) ∧ Hid (∀ o, wr.frozen? ⟨w.heap.size, o, none⟩ = false) ∧ Hid (Below w.heap.size w wr) ∧ w.heap.size < wr.heap.size) (fun i _ => len - (intOf i).toNat)
  case atStart => exact ⟨0, by omega, rfl, fun j hj => absurd hj (by omega), hmc.out, hmf.out, HB.out, hsz⟩
  case round =>
    obtain ⟨k, hk, rfl, hc, hx, hf, hb, hlt⟩ := hrel
    have hfr := hf.out
    by_cases hkl : k < len
    · rcases HH.out with h0 | ⟨ad, rfl, hbl, hcell⟩
      · omega
      obtain ⟨q1, q2⟩ := hcell k hkl
      generalize hxy : zs.getD k (0, 0) = xy at *
      obtain ⟨x, y⟩ := xy
      have e1 : wr.cell? (ad.add (k * 2)) = some (.int .i64 x) := by rw [hb.out.cell (by rw [add_block]; exact hbl)]; exact q1
      have e2 : wr.cell? ⟨(ad.add (k * 2)).block, (ad.add (k * 2)).off + 1, none⟩ = some (.int .i64 y) := by rw [add_next, hb.out.cell (by rw [add_block]; exact hbl)]; exact q2
      obtain ⟨v1, d1⟩ := hx.out (k * 2) (by omega)
      obtain ⟨v2, d2⟩ := hx.out (k * 2 + 1) (by omega)
      go_wp2_with fail
      refine (toPoint_any _ _ _).mono ?_
      rintro ex wa ⟨rfl, hBa⟩
      have hSa := hBa.size
      have d3 : wa.cell? ⟨w.heap.size, k * 2, none⟩ = some v1 := by rw [bG hBa hlt, d1]
      have d4 : wa.cell? ⟨w.heap.size, k * 2 + 1, none⟩ = some v2 := by rw [bG hBa hlt, d2]
      have hfa : ∀ o, wa.frozen? ⟨w.heap.size, o, none⟩ = false := fun o => by rw [fG hBa hlt, hfr]
      go_wp2
      go_roundw
      case rel =>
        go_light
        refine ⟨k + 1, by omega, by go_num, ?_, ?_, ?_, ?_, ?_⟩
        · show ∀ j, _ → _
          intro j hj
          by_cases hjk : j = k
          · subst hjk
            rw [hxy]
            refine ⟨?_, ?_⟩
            · rw [set_other _ _ _ _ _ _ (Or.inr (by omega)), set_same _ _ _ _ _ d3]
            · exact set_same _ _ _ _ v2 (by rw [set_other _ _ _ _ _ _ (Or.inr (by omega)), d4])
          · obtain ⟨g1, g2⟩ := hc.out j (by omega)
            refine ⟨?_, ?_⟩
            · rw [set_other _ _ _ _ _ _ (Or.inr (by omega)), set_other _ _ _ _ _ _ (Or.inr (by omega)), bG hBa hlt, g1]
            · rw [set_other _ _ _ _ _ _ (Or.inr (by omega)), set_other _ _ _ _ _ _ (Or.inr (by omega)), bG hBa hlt, g2]
        · show ∀ j, _ → _
          intro j hj
          by_cases j1 : j = k * 2 + 1
          · subst j1
            exact ⟨_, set_same _ _ _ _ v2 (by rw [set_other _ _ _ _ _ _ (Or.inr (by omega)), d4])⟩
          · rw [set_other _ _ _ _ _ _ (Or.inr (by omega))]
            by_cases j2 : j = k * 2
            · subst j2
              exact ⟨_, set_same _ _ _ _ v1 d3⟩
            · rw [set_other _ _ _ _ _ _ (Or.inr (by omega)), bG hBa hlt]
              exact hx.out j hj
        · show ∀ o, _ = _
          intro o
          simp [go_sem, hfa]
        · show Below _ _ _
          have h := hb.out
          repeat (first | with_reducible exact Below.refl _ _ | with_reducible assumption | ((with_reducible refine blA ?_ ?_); (focus (first | omega | (simp <;> omega)))) | (with_reducible refine blD ?_) | (with_reducible refine blN ?_) | ((with_reducible refine blS ?_ ?_); (focus (first | omega | (simp <;> omega)))) | ((with_reducible refine blT (by assumption) ?_ ?_); (focus (first | omega | (simp <;> omega)))))
        · simp; omega
      case measure => simp [intOf]; omega
    · have hk' : k = len := by omega
      subst hk'
      go_wp2
      go_ret
      refine ⟨w.heap.size, rfl, Nat.le_refl _, hlt, ⟨hz, Or.inr ⟨_, 0, rfl, hlt, fun j hj => ?_⟩⟩, hb.out⟩
      have := hc.out j hj
      simpa using this
set_option maxRecDepth 100000 in
set_option maxHeartbeats 4000000 in
theorem eqPointS_same (g1 g2 len c1 c2 : Nat) (zs : List (Int × Int)) (w : World) (h1 : PRow w (some ⟨g1, 0, none⟩) len zs) (h2 : PRow w (some ⟨g2, 0, none⟩) len zs) (hl : len ≤ 1048576) :
    Calls Try.prog 53 #[.slice (some ⟨g1, 0, none⟩) len c1, .slice (some ⟨g2, 0, none⟩) len c2] w fun en w' => en = .returned (.bool true) ∧ Below w.heap.size w w' := by
  obtain ⟨hz, h1⟩ := h1
  obtain ⟨_, h2⟩ := h2
  have H1 := Lib.hid h1
  have H2 := Lib.hid h2
  clear h1 h2
  go_enter Try.func53, Try.ntmps53
  go_wp2
  go_loopw [5] (fun i wr => ∃ k : Nat, k ≤ len ∧ i = .int .i64 (k : Int) ∧ Hid (Below w.heap.size w wr)) (fun i _ => len - (intOf i).toNat)
  case atStart => exact ⟨0, by omega, rfl, Below.refl _ _⟩
  case round =>
    obtain ⟨k, hk, rfl, hb⟩ := hrel
    have hbs := hb.out.size
    by_cases hkl : k < len
    · rcases H1.out with h0 | ⟨b, off, e, hbl, hcell⟩
      · omega
      obtain ⟨rfl, rfl⟩ : g1 = b ∧ 0 = off := by simpa using e
      rcases H2.out with h0 | ⟨b, off, e', hbl', hcell'⟩
      · omega
      obtain ⟨rfl, rfl⟩ : g2 = b ∧ 0 = off := by simpa using e'
      obtain ⟨q1, q2⟩ := hcell k hkl
      obtain ⟨q3, q4⟩ := hcell' k hkl
      rw [Nat.zero_add] at q1 q2 q3 q4
      generalize zs.getD k (0, 0) = xy at *
      obtain ⟨x, y⟩ := xy
      have l1 : g1 < wr.heap.size := by omega
      have l2 : g2 < wr.heap.size := by omega
      have e1 : wr.cell? ⟨g1, k * 2, none⟩ = some (.int .i64 x) := by rw [bG hb.out hbl]; exact q1
      have e2 : wr.cell? ⟨g1, k * 2 + 1, none⟩ = some (.int .i64 y) := by rw [bG hb.out hbl]; exact q2
      have e3 : wr.cell? ⟨g2, k * 2, none⟩ = some (.int .i64 x) := by rw [bG hb.out hbl']; exact q3
      have e4 : wr.cell? ⟨g2, k * 2 + 1, none⟩ = some (.int .i64 y) := by rw [bG hb.out hbl']; exact q4
      clear q1 q2 q3 q4 e e'
      go_wp2_with fail
      refine wp_region_past (by kernel_rfl) (by kernel_rfl) ?_
      repeat (first | go_big_quiet_skip | (go_big_quiet_want; go_big_quiet_op; first | go_big_quiet_on | (apply Exists.intro; refine ⟨fun _ => ?_, ?_⟩; (focus ((go_at_call 29; exact past_of (eqPoint_same _ _ _)))); go_big_quiet_on)))
      refine wpQuiet_nil ?_
      intro w1 hw'
      have hB1 := past_below hw'
      clear hw'
      obtain ⟨hC1, hF1⟩ := bcell hB1
      have hS1 := hB1.size
      (try simp at hS1)
      (try have hS1_w0 : w.heap.size < w1.heap.size := by omega)
      (try have hS1_w1 : w.heap.size + 1 < w1.heap.size := by omega)
      (try have hS1_w2 : w.heap.size + 1 + 1 < w1.heap.size := by omega)
      (try have hS1_w3 : w.heap.size + 1 + 1 + 1 < w1.heap.size := by omega)
      (try have hS1_w4 : w.heap.size + 1 + 1 + 1 + 1 < w1.heap.size := by omega)
      go_wp2
      go_roundw
      case rel =>
        go_light
        refine ⟨k + 1, by omega, by go_num, ?_⟩
        show Below _ _ _
        exact hb.out.trans (hB1.mono (by omega))
      case measure => simp [intOf]; omega
    · have hk' : k = len := by omega
      subst hk'
      go_wp2
      go_ret
      exact ⟨rfl, hb.out⟩
end Go.Proofs.Ytdeboabifcpdbaa
