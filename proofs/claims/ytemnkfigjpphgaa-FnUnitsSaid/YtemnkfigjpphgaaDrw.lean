/-
  The cursor from which the reference derives its draws: only that it gives numbers, and turns its own block alone.
-/
import Derived.Test.YtemnkfigjpphgaaRws
import Derived.Test.YtemnkfigjpphgaaForm
import Derived.Test.YtemnkfigjpphgaaRiv
import Derived.Laws.BitsLemmas
namespace Go.Proofs.Ytemnkfigjpphgaa
open Go.RowKit
attribute [local simp, local go_sem] past_cell past_frozen past_tape
/-- The bytes of a slice that came in, in a block below g. -/
def CodeOk (g : Nat) (w : World) (a : Option Addr) (len : Nat) : Prop := len = 0 ∨ ∃ b o, a = some ⟨b, o, none⟩ ∧ b < g ∧ b < w.heap.size ∧ ∀ i, i < len → ∃ x : Int, w.cell? ⟨b, o + i, none⟩ = some (.int .u8 x) ∧ 0 ≤ x ∧ x ≤ 255
/-- A cursor in block g, that has gone at most m steps. -/
def Cur (m : Nat) (g : Nat) (w : World) : Prop := g < w.heap.size ∧ ∃ (a : Option Addr) (len cap : Nat) (p : Nat) (s : Int), w.cell? ⟨g, 0, none⟩ = some (.slice a len cap) ∧ w.cell? ⟨g, 1, none⟩ = some (.int .i64 (p : Int)) ∧ w.cell? ⟨g, 2, none⟩ = some (.int .u64 s) ∧ (∀ o, w.frozen? ⟨g, o, none⟩ = false) ∧ p ≤ m ∧ (0 ≤ s ∧ s ≤ 18446744073709551615) ∧ len ≤ 140737488355328 ∧ CodeOk g w a len
theorem Cur.mono {m n g : Nat} {w : World} (h : Cur m g w) (hmn : m ≤ n) : Cur n g w := by
  obtain ⟨h0, a, len, cap, p, s, h1, h2, h3, h4, h5, h6⟩ := h
  exact ⟨h0, a, len, cap, p, s, h1, h2, h3, h4, by omega, h6⟩
theorem Cur.lt {m g : Nat} {w : World} (h : Cur m g w) : g < w.heap.size := h.1
theorem block_cell {w w' : World} {b o : Nat} (h : w'.heap[b]? = w.heap[b]?) : w'.cell? ⟨b, o, none⟩ = w.cell? ⟨b, o, none⟩ := by
  unfold World.cell?
  simp only
  rw [h]
theorem block_frozen {w w' : World} {b o : Nat} (h : w'.heap[b]? = w.heap[b]?) : w'.frozen? ⟨b, o, none⟩ = w.frozen? ⟨b, o, none⟩ := by
  unfold World.frozen?
  simp only
  rw [h]
theorem CodeOk.keep {g : Nat} {w w' : World} {a : Option Addr} {len : Nat} (h : CodeOk g w a len) (hz : w.heap.size ≤ w'.heap.size) (hk : ∀ b, b < g → b < w.heap.size → w'.heap[b]? = w.heap[b]?) : CodeOk g w' a len := by
  rcases h with h | ⟨b, o, h1, h2, h3, h4⟩
  · exact .inl h
  · refine .inr ⟨b, o, h1, h2, by omega, fun i hi => ?_⟩
    obtain ⟨x, hx, hx1, hx2⟩ := h4 i hi
    exact ⟨x, by rw [block_cell (hk b h2 h3)]; exact hx, hx1, hx2⟩
theorem Cur.keep {m g : Nat} {w w' : World} (h : Cur m g w) (hz : w.heap.size ≤ w'.heap.size) (hk : ∀ b, b ≤ g → b < w.heap.size → w'.heap[b]? = w.heap[b]?) : Cur m g w' := by
  obtain ⟨h0, a, len, cap, p, s, h1, h2, h3, h4, h5, h6, h7, h8⟩ := h
  have hg := hk g (Nat.le_refl _) h0
  exact ⟨by omega, a, len, cap, p, s, by rw [block_cell hg]; exact h1, by rw [block_cell hg]; exact h2, by rw [block_cell hg]; exact h3, fun o => by rw [block_frozen hg]; exact h4 o, h5, h6, h7, h8.keep hz fun b hb hb2 => hk b (by omega) hb2⟩
/-- A cursor that nothing has touched. -/
theorem Cur.later {m g : Nat} {w w' : World} (h : Cur m g w) (hb : Below w.heap.size w w') : Cur m g w' := h.keep hb.size fun b _ h2 => hb.block b h2
theorem Cur.apart {m g : Nat} {w w' : World} {row : Option Nat} (h : Cur m g w) (hg : w.grownBy w' row) (hr : ∀ k, row = some k → g < k) : Cur m g w' :=
  h.keep hg.size fun b h1 h2 => hg.block b h2 (fun e => by have := hr b e.symm; omega)
theorem grown_set (w : World) (g o : Nat) (u : Value) : w.grownBy (w.setCell ⟨g, o, none⟩ u) (some g) := by
  refine ⟨rfl, rfl, rfl, by simp, fun k hk hne => ?_⟩
  have hne' : ¬ g = k := fun e => hne (by rw [e])
  simp only [World.setCell]
  rw [Array.getElem?_modify, if_neg hne']
theorem gA {a w : World} {row : Option Nat} {o : Obj} (h : a.grownBy w row) : a.grownBy (w.alloc o) row := grown_then h (grown_of ((Below.refl _ _).alloc (Nat.le_refl _) o) _)
theorem gS {a w : World} {row : Option Nat} {b o : Nat} {u : Value} (hb : a.heap.size ≤ b) (h : a.grownBy w row) : a.grownBy (w.setCell ⟨b, o, none⟩ u) row := by
  have hb2 := (grown_set w b o u)
  refine ⟨hb2.os.trans h.os, hb2.tape.trans h.tape, hb2.output.trans h.output, Nat.le_trans h.size hb2.size, fun k hk hne => ?_⟩
  rw [hb2.block k (Nat.lt_of_lt_of_le hk h.size) (fun e => by cases e; omega)]
  exact h.block k hk hne
theorem gB {a b c : World} {row : Option Nat} (k : Below b.heap.size b c) (h : a.grownBy b row) : a.grownBy c row := grown_then h (grown_of k _)
theorem gT {a b c : World} {row : Option Nat} (k : b.grownBy c row) (h : a.grownBy b row) : a.grownBy c row := grown_then h k
theorem kA {m g : Nat} {w : World} {o : Obj} (h : Cur m g w) : Cur m g (w.alloc o) := h.later ((Below.refl _ _).alloc (Nat.le_refl _) o)
theorem kS {m g : Nat} {w : World} {b o : Nat} {u : Value} (hb : g < b) (h : Cur m g w) : Cur m g (w.setCell ⟨b, o, none⟩ u) := h.apart (grown_set w b o u) (fun k e => by cases e; exact hb)
theorem kB {m g : Nat} {w w' : World} (k : Below w.heap.size w w') (h : Cur m g w) : Cur m g w' := h.later k
theorem gcell {g : Nat} {w w1 w2 : World} (h : w1.grownBy w2 (some g)) (hlt : g < w.heap.size) : (∀ b o, w.heap.size ≤ b → b < w1.heap.size → w2.cell? ⟨b, o, none⟩ = w1.cell? ⟨b, o, none⟩) ∧ (∀ b o, w.heap.size ≤ b → b < w1.heap.size → w2.frozen? ⟨b, o, none⟩ = w1.frozen? ⟨b, o, none⟩) :=
  ⟨fun b o h1 h2 => block_cell (h.block b h2 (fun e => by cases e; omega)), fun b o h1 h2 => block_frozen (h.block b h2 (fun e => by cases e; omega))⟩
theorem gen_world {P : Program} {c : Code} {Q : Exit → Act → World → Prop} {a : Act} {W : World} (R : World → Prop) (h : R W) (k : ∀ w, R w → c.wp P Q a w) : c.wp P Q a W := k W h
theorem wrapU (z : Int) : 0 ≤ IntKind.u64.wrap z ∧ IntKind.u64.wrap z ≤ 18446744073709551615 := by
  have : IntKind.u64.wrap z = z % 18446744073709551616 := rfl
  rw [this]
  omega
theorem low8 (z : Int) (h0 : 0 ≤ z) (h1 : z ≤ 18446744073709551615) : 0 ≤ wrap64 (bits BinOp.and IntKind.u64 (z / 1099511627776) 255) ∧ wrap64 (bits BinOp.and IntKind.u64 (z / 1099511627776) 255) ≤ 255 := by
  have hz : 0 ≤ z / 1099511627776 ∧ z / 1099511627776 < 9223372036854775808 := by omega
  have hw : ∀ n : Int, 0 ≤ n → n < 2 ^ 63 → IntKind.u64.wrap n = n := by
    intro n a b
    have e : (2 : Int) ^ 63 = 9223372036854775808 := by decide
    have : IntKind.u64.wrap n = n % 18446744073709551616 := rfl
    rw [e] at b
    rw [this]
    omega
  have e0 : (2 : Int) ^ 63 = 9223372036854775808 := by decide
  have h := bits_mask .u64 63 (by decide) hw 8 (by decide) (z / 1099511627776) hz.1 (by rw [e0]; exact hz.2)
  have e : ((2 : Int) ^ 8 - 1) = 255 := by decide
  have e2 : ((2 : Int) ^ 8) = 256 := by decide
  rw [e, e2] at h
  rw [h]
  unfold wrap64
  omega
set_option maxRecDepth 100000 in
set_option maxHeartbeats 2000000 in
theorem next_any (m g : Nat) (w : World) (h : Cur m g w) (hm : m ≤ 1000000) :
    Calls Try.prog 100 #[.pointer (some ⟨g, 0, none⟩)] w fun e w' => (∃ x : Int, e = .returned (.int .i64 x) ∧ 0 ≤ x ∧ x ≤ 255) ∧ Cur (m + 1) g w' ∧ w.grownBy w' (some g) := by
  obtain ⟨hl, a, len, cap, p, s, hc0, hc1, hc2, hf, h2, ⟨h3, h4⟩, h5, h6⟩ := h
  by_cases hpl : p < len
  · obtain ⟨b, o, rfl, hbg, hbw, hcode⟩ := h6.resolve_left (by omega)
    obtain ⟨x, hx, hx1, hx2⟩ := hcode p hpl
    have hpl' : decide (p < len) = true := decide_eq_true hpl
    go_enter Try.func100, Try.ntmps100
    go_wp2_with fail
    refine wp_region_past (by kernel_rfl) (by kernel_rfl) ?_
    repeat (first | go_big_quiet_skip | (go_big_quiet_want; go_big_quiet_op; first | go_big_quiet_on | (apply Exists.intro; refine ⟨fun _ => ?_, ?_⟩; (focus (fail)); go_big_quiet_on)))
    refine wpQuiet_nil ?_
    intro w1 hw'
    have hB1 := past_below hw'
    clear hw'
    obtain ⟨hC1, hF1⟩ := bcell hB1
    have hS1 := hB1.size
    (try simp at hS1)
    (try have hS1_w0 : w.heap.size < w1.heap.size := by omega)
    (try have hS1_w1 : w.heap.size + 1 < w1.heap.size := by omega)
    (try have hS1_w2 : w.heap.size + 1 + 1 < w1.heap.size := by omega)
    (try have hS1_w3 : w.heap.size + 1 + 1 + 1 < w1.heap.size := by omega)
    (try have hS1_w4 : w.heap.size + 1 + 1 + 1 + 1 < w1.heap.size := by omega)
    have c10 : w1.cell? ⟨g, 0, none⟩ = some (.slice (some ⟨b, o, none⟩) len cap) := by rw [hC1 g 0 hl]; exact hc0
    have c11 : w1.cell? ⟨g, 1, none⟩ = some (.int .i64 (p : Int)) := by rw [hC1 g 1 hl]; exact hc1
    have c12 : w1.cell? ⟨g, 2, none⟩ = some (.int .u64 s) := by rw [hC1 g 2 hl]; exact hc2
    have c1x : w1.cell? ⟨b, o + p, none⟩ = some (.int .u8 x) := by rw [hC1 b _ hbw]; exact hx
    have l1 : g < w1.heap.size := by omega
    have l1b : b < w1.heap.size := by omega
    have f1 : ∀ o, w1.frozen? ⟨g, o, none⟩ = false := fun o => by rw [hF1 g o hl]; exact hf o
    go_wp2_with fail
    refine wp_region_past (by kernel_rfl) (by kernel_rfl) ?_
    repeat (first | go_big_quiet_skip | (go_big_quiet_want; go_big_quiet_op; first | go_big_quiet_on | (apply Exists.intro; refine ⟨fun _ => ?_, ?_⟩; (focus (fail)); go_big_quiet_on)))
    refine wpQuiet_nil ?_
    intro w2 hw'
    have hB2 := past_below hw'
    clear hw'
    obtain ⟨hC2, hF2⟩ := bcell hB2
    have hS2 := hB2.size
    (try simp at hS2)
    (try have hS2_w0 : w.heap.size < w2.heap.size := by omega)
    (try have hS2_w1 : w.heap.size + 1 < w2.heap.size := by omega)
    (try have hS2_w2 : w.heap.size + 1 + 1 < w2.heap.size := by omega)
    (try have hS2_w3 : w.heap.size + 1 + 1 + 1 < w2.heap.size := by omega)
    (try have hS2_w4 : w.heap.size + 1 + 1 + 1 + 1 < w2.heap.size := by omega)
    (try have hS2_1 : w1.heap.size < w2.heap.size := by omega)
    (try have hS2_1' : w1.heap.size + 1 < w2.heap.size := by omega)
    have c20 : w2.cell? ⟨g, 0, none⟩ = some (.slice (some ⟨b, o, none⟩) len cap) := by rw [hC2 g 0 l1]; exact c10
    have c21 : w2.cell? ⟨g, 1, none⟩ = some (.int .i64 (p : Int)) := by rw [hC2 g 1 l1]; exact c11
    have c22 : w2.cell? ⟨g, 2, none⟩ = some (.int .u64 s) := by rw [hC2 g 2 l1]; exact c12
    have l2 : g < w2.heap.size := by omega
    have l2b : b < w2.heap.size := by omega
    have f2 : ∀ o, w2.frozen? ⟨g, o, none⟩ = false := fun o => by rw [hF2 g o l1]; exact f1 o
    go_wp2_with fail
    refine gen_world (fun w3 => w3.cell? ⟨g, 0, none⟩ = some (.slice (some ⟨b, o, none⟩) len cap) ∧ w3.cell? ⟨g, 1, none⟩ = some (.int .i64 ((p + 1 : Nat) : Int)) ∧ (∃ s' : Int, w3.cell? ⟨g, 2, none⟩ = some (.int .u64 s') ∧ 0 ≤ s' ∧ s' ≤ 18446744073709551615) ∧ (∀ o, w3.frozen? ⟨g, o, none⟩ = false) ∧ w3.heap.size = w2.heap.size ∧ w2.grownBy w3 (some g)) ?_ ?_
    · refine ⟨?_, ?_, ⟨IntKind.u64.wrap (IntKind.u64.wrap (IntKind.u64.wrap (s * 6364136223846793005) + x) + 1442695040888963407), ?_, wrapU _⟩, fun o => ?_, ?_, ?_⟩
      · rw [set_other _ _ _ _ _ _ (Or.inr (by omega)), set_other _ _ _ _ _ _ (Or.inr (by omega))]; exact c20
      · rw [set_other _ _ _ _ _ _ (Or.inr (by omega)), set_same _ _ _ _ _ c21]; go_num
      · exact set_same _ _ _ _ _ (by rw [set_other _ _ _ _ _ _ (Or.inr (by omega))]; exact c22)
      · rw [World.frozen?_setCell, World.frozen?_setCell]; exact f2 o
      · simp
      · exact grown_then (grown_set _ _ _ _) (grown_set _ _ _ _)
    rintro wx ⟨c30, c31, ⟨s', c32, s1, s2⟩, f3, z3, g3⟩
    have l3 : g < wx.heap.size := by omega
    have B2 := Lib.hid (show w.grownBy wx (some g) from grown_then (grown_of (hB1.trans (hB2.mono (by omega))) _) g3)
    clear hB1 hB2 hC1 hC2 hF1 hF2
    have hle : decide (((p + 1 : Nat) : Int) ≤ (len : Int)) = true := decide_eq_true (by omega)
    refine wp_region_past (by kernel_rfl) (by kernel_rfl) ?_
    repeat (first | go_big_quiet_skip | (go_big_quiet_want; go_big_quiet_op; first | go_big_quiet_on | (apply Exists.intro; refine ⟨fun _ => ?_, ?_⟩; (focus (fail)); go_big_quiet_on)))
    refine wpQuiet_nil ?_
    intro w3 hw'
    have hB3 := past_below hw'
    clear hw'
    obtain ⟨hC3, hF3⟩ := bcell hB3
    have hS3 := hB3.size
    (try simp at hS3)
    (try have hS3_w0 : w.heap.size < w3.heap.size := by omega)
    (try have hS3_w1 : w.heap.size + 1 < w3.heap.size := by omega)
    (try have hS3_w2 : w.heap.size + 1 + 1 < w3.heap.size := by omega)
    (try have hS3_w3 : w.heap.size + 1 + 1 + 1 < w3.heap.size := by omega)
    (try have hS3_w4 : w.heap.size + 1 + 1 + 1 + 1 < w3.heap.size := by omega)
    (try have hS3_1 : w1.heap.size < w3.heap.size := by omega)
    (try have hS3_2 : w2.heap.size < w3.heap.size := by omega)
    (try have hS3_1' : w1.heap.size + 1 < w3.heap.size := by omega)
    (try have hS3_2' : w2.heap.size + 1 < w3.heap.size := by omega)
    have B3 := Lib.hid (show w.grownBy w3 (some g) from grown_then B2 (grown_of hB3 _))
    have c40 : w3.cell? ⟨g, 0, none⟩ = some (.slice (some ⟨b, o, none⟩) len cap) := by rw [hC3 g 0 l3]; exact c30
    have c41 : w3.cell? ⟨g, 1, none⟩ = some (.int .i64 ((p + 1 : Nat) : Int)) := by rw [hC3 g 1 l3]; exact c31
    have c42 : w3.cell? ⟨g, 2, none⟩ = some (.int .u64 s') := by rw [hC3 g 2 l3]; exact c32
    have f4 : ∀ o, w3.frozen? ⟨g, o, none⟩ = false := fun o => by rw [hF3 g o l3]; exact f3 o
    have l4 : g < w3.heap.size := by omega
    have hcur : Cur (m + 1) g w3 := ⟨l4, some ⟨b, o, none⟩, len, cap, p + 1, s', c40, c41, c42, f4, by omega, ⟨s1, s2⟩, h5, (h6.keep (w' := w3) (by omega) fun k hk hkw => (show w.grownBy w3 (some g) from B3).block k hkw (fun e => by cases e; omega))⟩
    go_wp2_with fail
    go_ret
    exact ⟨⟨x, rfl, hx1, hx2⟩, hcur, B3⟩
  · skip
    have hpl' : decide ((p : Int) < (len : Int)) = false := decide_eq_false (by omega)
    have hle : decide (((p + 1 : Nat) : Int) ≤ (len : Int)) = false := decide_eq_false (by omega)
    go_enter Try.func100, Try.ntmps100
    go_wp2_with fail
    refine wp_region_past (by kernel_rfl) (by kernel_rfl) ?_
    repeat (first | go_big_quiet_skip | (go_big_quiet_want; go_big_quiet_op; first | go_big_quiet_on | (apply Exists.intro; refine ⟨fun _ => ?_, ?_⟩; (focus (fail)); go_big_quiet_on)))
    refine wpQuiet_nil ?_
    intro w4 hw'
    have hB4 := past_below hw'
    clear hw'
    obtain ⟨hC4, hF4⟩ := bcell hB4
    have hS4 := hB4.size
    (try simp at hS4)
    (try have hS4_w0 : w.heap.size < w4.heap.size := by omega)
    (try have hS4_w1 : w.heap.size + 1 < w4.heap.size := by omega)
    (try have hS4_w2 : w.heap.size + 1 + 1 < w4.heap.size := by omega)
    (try have hS4_w3 : w.heap.size + 1 + 1 + 1 < w4.heap.size := by omega)
    (try have hS4_w4 : w.heap.size + 1 + 1 + 1 + 1 < w4.heap.size := by omega)
    (try have hS4_1 : w1.heap.size < w4.heap.size := by omega)
    (try have hS4_2 : w2.heap.size < w4.heap.size := by omega)
    (try have hS4_3 : w3.heap.size < w4.heap.size := by omega)
    (try have hS4_1' : w1.heap.size + 1 < w4.heap.size := by omega)
    (try have hS4_2' : w2.heap.size + 1 < w4.heap.size := by omega)
    (try have hS4_3' : w3.heap.size + 1 < w4.heap.size := by omega)
    have c10 : w4.cell? ⟨g, 0, none⟩ = some (.slice a len cap) := by rw [hC4 g 0 hl]; exact hc0
    have c11 : w4.cell? ⟨g, 1, none⟩ = some (.int .i64 (p : Int)) := by rw [hC4 g 1 hl]; exact hc1
    have c12 : w4.cell? ⟨g, 2, none⟩ = some (.int .u64 s) := by rw [hC4 g 2 hl]; exact hc2
    have l1 : g < w4.heap.size := by omega
    have f1 : ∀ o, w4.frozen? ⟨g, o, none⟩ = false := fun o => by rw [hF4 g o hl]; exact hf o
    go_wp2_with fail
    refine gen_world (fun w5 => w5.cell? ⟨g, 0, none⟩ = some (.slice a len cap) ∧ w5.cell? ⟨g, 1, none⟩ = some (.int .i64 ((p + 1 : Nat) : Int)) ∧ (∃ s' : Int, w5.cell? ⟨g, 2, none⟩ = some (.int .u64 s') ∧ 0 ≤ s' ∧ s' ≤ 18446744073709551615) ∧ (∀ o, w5.frozen? ⟨g, o, none⟩ = false) ∧ w5.heap.size = w4.heap.size ∧ w4.grownBy w5 (some g)) ?_ ?_
    · refine ⟨?_, ?_, ⟨_, set_same _ _ _ _ _ (by rw [set_other _ _ _ _ _ _ (Or.inr (by decide))]; exact c12), wrapU _⟩, fun o => ?_, ?_, ?_⟩
      · rw [set_other _ _ _ _ _ _ (Or.inr (by omega)), set_other _ _ _ _ _ _ (Or.inr (by omega))]; exact c10
      · rw [set_other _ _ _ _ _ _ (Or.inr (by omega)), set_same _ _ _ _ _ c11]; go_num
      · rw [World.frozen?_setCell, World.frozen?_setCell]; exact f1 o
      · simp
      · exact grown_then (grown_set _ _ _ _) (grown_set _ _ _ _)
    rintro wy ⟨c30, c31, ⟨s', c32, s1, s2⟩, f3, z3, g3⟩
    have l3 : g < wy.heap.size := by omega
    have B7 := Lib.hid (show w.grownBy wy (some g) from grown_then (grown_of hB4 _) g3)
    clear hB4 hC4 hF4
    refine wp_region_past (by kernel_rfl) (by kernel_rfl) ?_
    repeat (first | go_big_quiet_skip | (go_big_quiet_want; go_big_quiet_op; first | go_big_quiet_on | (apply Exists.intro; refine ⟨fun _ => ?_, ?_⟩; (focus (fail)); go_big_quiet_on)))
    refine wpQuiet_nil ?_
    intro w5 hw'
    have hB5 := past_below hw'
    clear hw'
    obtain ⟨hC5, hF5⟩ := bcell hB5
    have hS5 := hB5.size
    (try simp at hS5)
    (try have hS5_w0 : w.heap.size < w5.heap.size := by omega)
    (try have hS5_w1 : w.heap.size + 1 < w5.heap.size := by omega)
    (try have hS5_w2 : w.heap.size + 1 + 1 < w5.heap.size := by omega)
    (try have hS5_w3 : w.heap.size + 1 + 1 + 1 < w5.heap.size := by omega)
    (try have hS5_w4 : w.heap.size + 1 + 1 + 1 + 1 < w5.heap.size := by omega)
    (try have hS5_1 : w1.heap.size < w5.heap.size := by omega)
    (try have hS5_2 : w2.heap.size < w5.heap.size := by omega)
    (try have hS5_3 : w3.heap.size < w5.heap.size := by omega)
    (try have hS5_4 : w4.heap.size < w5.heap.size := by omega)
    (try have hS5_1' : w1.heap.size + 1 < w5.heap.size := by omega)
    (try have hS5_2' : w2.heap.size + 1 < w5.heap.size := by omega)
    (try have hS5_3' : w3.heap.size + 1 < w5.heap.size := by omega)
    (try have hS5_4' : w4.heap.size + 1 < w5.heap.size := by omega)
    have B3 := Lib.hid (show w.grownBy w5 (some g) from grown_then B7 (grown_of hB5 _))
    have c40 : w5.cell? ⟨g, 0, none⟩ = some (.slice a len cap) := by rw [hC5 g 0 l3]; exact c30
    have c41 : w5.cell? ⟨g, 1, none⟩ = some (.int .i64 ((p + 1 : Nat) : Int)) := by rw [hC5 g 1 l3]; exact c31
    have c42 : w5.cell? ⟨g, 2, none⟩ = some (.int .u64 s') := by rw [hC5 g 2 l3]; exact c32
    have f4 : ∀ o, w5.frozen? ⟨g, o, none⟩ = false := fun o => by rw [hF5 g o l3]; exact f3 o
    have l4 : g < w5.heap.size := by omega
    have hcur : Cur (m + 1) g w5 := ⟨l4, a, len, cap, p + 1, s', c40, c41, c42, f4, by omega, ⟨s1, s2⟩, h5, (CodeOk.keep (w := w) h6 (w' := w5) (by omega) fun k hk hkw => (show w.grownBy w5 (some g) from B3).block k hkw (fun e => by cases e; omega))⟩
    go_wp2_with fail
    go_ret
    exact ⟨⟨_, rfl, (low8 s' s1 s2).1, (low8 s' s1 s2).2⟩, hcur, B3⟩
end Go.Proofs.Ytemnkfigjpphgaa

/-
  The reference's draws of numbers: only that each answers, within what bounds, and turns the cursor's block alone.
-/
namespace Go.Proofs.Ytemnkfigjpphgaa
open Go.RowKit
attribute [local simp, local go_sem] past_cell past_frozen past_tape
theorem Cur.down {m n g : Nat} {w : World} (h : Cur m g w) (hmn : m ≤ n) : Cur n g w := h.mono hmn
theorem below_alloc (w : World) (o : Obj) : Below w.heap.size w (w.alloc o) := (Below.refl _ _).alloc (Nat.le_refl _) o
theorem grown_id (w : World) (row : Option Nat) : w.grownBy w row := grown_of (Below.refl _ _) row
set_option maxHeartbeats 1000000 in
theorem pick_any (m g : Nat) (n : Int) (w : World) (h : Cur m g w) (hm : m ≤ 999000) (hn : 0 ≤ n ∧ n ≤ 1000000000) :
    Calls Try.prog 43 #[.pointer (some ⟨g, 0, none⟩), .int .i64 n] w fun e w' => (∃ x : Int, e = .returned (.int .i64 x) ∧ 0 ≤ x ∧ (x < n ∨ x = 0)) ∧ Cur (m + 2) g w' ∧ w.grownBy w' (some g) := by
  by_cases h1 : n ≤ 1
  · go_enter Try.func43, Try.ntmps43
    go_wp2
    go_ret
    exact ⟨⟨0, rfl, Int.le_refl _, .inr rfl⟩, h.mono (by omega), grown_id _ _⟩
  · have h1' : decide (n ≤ 1) = false := decide_eq_false h1
    by_cases h2 : 200 < n
    · have h2' : decide (200 < n) = true := decide_eq_true h2
      go_enter Try.func43, Try.ntmps43
      go_wp2_with fail
      refine (next_any m g _ h (by omega)).mono ?_
      rintro e1 w1 ⟨⟨x, rfl, x0, x1⟩, k1, g1⟩
      go_wp2_with fail
      refine (next_any (m + 1) g _ k1 (by omega)).mono ?_
      rintro e2 w2 ⟨⟨y, rfl, y0, y1⟩, k2, g2⟩
      have hw : wrap64 (wrap64 (x * 256) + y) = x * 256 + y := by unfold wrap64; omega
      have hr : Int.tmod (x * 256 + y) n = (x * 256 + y) % n := Int.tmod_eq_emod_of_nonneg (by omega)
      have hb0 := Int.emod_nonneg (x * 256 + y) (show n ≠ 0 by omega)
      have hb1 := Int.emod_lt_of_pos (x * 256 + y) (show 0 < n by omega)
      have hn0 : ¬ n = 0 := by omega
      go_wp2_with fail
      go_ret
      exact ⟨⟨_, rfl, hb0, .inl hb1⟩, k2, grown_then g1 g2⟩
    · have h2' : decide (200 < n) = false := decide_eq_false h2
      go_enter Try.func43, Try.ntmps43
      go_wp2_with fail
      refine (next_any m g _ h (by omega)).mono ?_
      rintro e1 w1 ⟨⟨x, rfl, x0, x1⟩, k1, g1⟩
      have hr : Int.tmod x n = x % n := Int.tmod_eq_emod_of_nonneg (by omega)
      have hb0 := Int.emod_nonneg x (show n ≠ 0 by omega)
      have hb1 := Int.emod_lt_of_pos x (show 0 < n by omega)
      have hn0 : ¬ n = 0 := by omega
      go_wp2_with fail
      go_ret
      exact ⟨⟨_, rfl, hb0, .inl hb1⟩, k1.mono (by omega), g1⟩
set_option maxHeartbeats 1000000 in
theorem one_any (m g : Nat) (n : Int) (w : World) (h : Cur m g w) (hm : m ≤ 999000) (hn : 0 ≤ n ∧ n ≤ 1000000000) :
    Calls Try.prog 57 #[.pointer (some ⟨g, 0, none⟩), .int .i64 n] w fun e w' => (∃ x : Bool, e = .returned (.bool x) ∧ True ∧ True) ∧ Cur (m + 2) g w' ∧ w.grownBy w' (some g) := by
  go_enter Try.func57, Try.ntmps57
  go_wp2_with fail
  refine (pick_any _ g _ _ h (by omega) (by omega)).mono ?_
  rintro e1 w1 ⟨⟨x1, rfl, p1, q1⟩, k1, g1⟩
  by_cases c : x1 = 0
  · subst c
    go_wp2
    go_ret
    exact ⟨⟨true, rfl, trivial, trivial⟩, k1, g1⟩
  · have c' : (x1 == 0) = false := by simp [c]
    go_wp2
    go_ret
    exact ⟨⟨_, rfl, trivial, trivial⟩, k1, g1⟩

theorem wrap64_I (n : Int) : I64 (wrap64 n) := by unfold wrap64 I64; omega
def Lst (b n : Nat) (P : Int → Prop) (w : World) : Prop := b < w.heap.size ∧ ∀ i, i < n → ∃ x : Int, w.cell? ⟨b, i, none⟩ = some (.int .i64 x) ∧ P x
theorem lst_new (w : World) (xs : Array Value) (t : TypeId) (n : Nat) (P : Int → Prop) (hn : xs.size = n) (h : ∀ v ∈ xs, ∃ x : Int, v = .int .i64 x ∧ P x) : Lst w.heap.size n P (w.alloc (.cells xs t)) := by
  refine ⟨by simp, fun i hi => ?_⟩
  obtain ⟨x, hx, hp⟩ := h xs[i] (Array.getElem_mem (by omega))
  refine ⟨x, ?_, hp⟩
  rw [← hx]
  simp [hn, hi]
theorem Lst.keep {b n : Nat} {P : Int → Prop} {w w' : World} {row : Option Nat} (h : Lst b n P w) (hg : w.grownBy w' row) (hr : row ≠ some b) : Lst b n P w' := by
  refine ⟨Nat.lt_of_lt_of_le h.1 hg.size, fun i hi => ?_⟩
  obtain ⟨x, hx, hp⟩ := h.2 i hi
  exact ⟨x, by rw [block_cell (hg.block b h.1 (fun e => hr e.symm))]; exact hx, hp⟩
set_option maxHeartbeats 1000000 in
theorem among_any (m g : Nat) (b n cap : Nat) (P : Int → Prop) (w : World) (h : Cur m g w) (hm : m ≤ 999000) (hn : 0 < n ∧ n ≤ 1000) (hl : Lst b n P w) (hb : b ≠ g) :
    Calls Try.prog 42 #[.pointer (some ⟨g, 0, none⟩), .slice (some ⟨b, 0, none⟩) n cap] w fun e w' => (∃ x : Int, e = .returned (.int .i64 x) ∧ P x ∧ True) ∧ Cur (m + 2) g w' ∧ w.grownBy w' (some g) := by
  go_enter Try.func42, Try.ntmps42
  go_wp2_with fail
  refine (pick_any _ g _ _ h (by omega) (by omega)).mono ?_
  rintro e1 w1 ⟨⟨x1, rfl, p1, q1⟩, k1, g1⟩
  obtain ⟨lb, hl1⟩ := hl.keep g1 (fun e => hb (by cases e; rfl))
  obtain ⟨i, rfl⟩ : ∃ i : Nat, x1 = i := ⟨x1.toNat, by omega⟩
  have hi : i < n := by omega
  obtain ⟨x, hx, hp⟩ := hl1 i hi
  have hi' : ((i : Int) < (n : Int)) := by omega
  go_wp2_with fail
  go_ret
  exact ⟨⟨x, rfl, hp, trivial⟩, k1, g1⟩
set_option maxHeartbeats 2000000 in
theorem number_any (m g : Nat) (w : World) (h : Cur m g w) (hm : m ≤ 990000) :
    Calls Try.prog 128 #[.pointer (some ⟨g, 0, none⟩)] w fun e w' => (∃ x : Int, e = .returned (.int .i64 x) ∧ I64 x ∧ True) ∧ Cur (m + 8) g w' ∧ w.grownBy w' (some g) := by
  go_enter Try.func128, Try.ntmps128
  go_wp2_with fail
  refine (pick_any _ g _ _ h (by omega) (by omega)).mono ?_
  rintro e1 w1 ⟨⟨x1, rfl, p1, q1⟩, k1, g1⟩
  by_cases c0 : x1 = 0
  · subst c0
    go_wp2_with fail
    refine (among_any (m + 2) g w1.heap.size 12 12 I64 _ (k1.later (below_alloc _ _)) (by omega) (by omega) (lst_new _ _ _ _ _ rfl ?_) (by have := k1.lt; omega)).mono ?_
    · simp [I64]
    rintro e2 w2 ⟨⟨x2, rfl, p2, q2⟩, k2, g2⟩
    go_wp2_with fail
    go_ret
    exact ⟨⟨_, rfl, p2, trivial⟩, k2.mono (by omega), grown_then g1 (grown_then (grown_of (below_alloc _ _) _) g2)⟩
  by_cases c1 : x1 = 1
  · subst c1
    go_wp2_with fail
    refine (pick_any _ g _ _ k1 (by omega) (by omega)).mono ?_
    rintro e2 w2 ⟨⟨x2, rfl, p2, q2⟩, k2, g2⟩
    go_wp2_with fail
    refine (pick_any _ g _ _ k2 (by omega) (by omega)).mono ?_
    rintro e3 w3 ⟨⟨x3, rfl, p3, q3⟩, k3, g3⟩
    go_wp2_with fail
    refine (pick_any _ g _ _ k3 (by omega) (by omega)).mono ?_
    rintro e4 w4 ⟨⟨x4, rfl, p4, q4⟩, k4, g4⟩
    have hw1 : wrap64 (1 + x3) = 1 + x3 := by unfold wrap64; omega
    go_wp2_with fail
    go_ret
    exact ⟨⟨_, rfl, wrap64_I _, trivial⟩, k4.mono (by omega), grown_then g1 (grown_then g2 (grown_then g3 g4))⟩
  by_cases c2 : x1 = 2
  · subst c2
    go_wp2_with fail
    refine (pick_any _ g _ _ k1 (by omega) (by omega)).mono ?_
    rintro e2 w2 ⟨⟨x2, rfl, p2, q2⟩, k2, g2⟩
    go_wp2_with fail
    refine (pick_any _ g _ _ k2 (by omega) (by omega)).mono ?_
    rintro e3 w3 ⟨⟨x3, rfl, p3, q3⟩, k3, g3⟩
    go_wp2_with fail
    refine (pick_any _ g _ _ k3 (by omega) (by omega)).mono ?_
    rintro e4 w4 ⟨⟨x4, rfl, p4, q4⟩, k4, g4⟩
    have hw1 : wrap64 (1 + x3) = 1 + x3 := by unfold wrap64; omega
    go_wp2_with fail
    go_ret
    exact ⟨⟨_, rfl, wrap64_I _, trivial⟩, k4.mono (by omega), grown_then g1 (grown_then g2 (grown_then g3 g4))⟩
  by_cases c3 : x1 = 3
  · subst c3
    go_wp2_with fail
    refine (pick_any _ g _ _ k1 (by omega) (by omega)).mono ?_
    rintro e2 w2 ⟨⟨x2, rfl, p2, q2⟩, k2, g2⟩
    go_wp2_with fail
    go_ret
    exact ⟨⟨_, rfl, by unfold I64; omega, trivial⟩, k2.mono (by omega), grown_then g1 g2⟩
  by_cases c4 : x1 = 4
  · subst c4
    go_wp2_with fail
    refine (pick_any _ g _ _ k1 (by omega) (by omega)).mono ?_
    rintro e2 w2 ⟨⟨x2, rfl, p2, q2⟩, k2, g2⟩
    go_wp2_with fail
    go_ret
    exact ⟨⟨_, rfl, by unfold I64; omega, trivial⟩, k2.mono (by omega), grown_then g1 g2⟩
  have d0 : (x1 == 0) = false := by simp [c0]
  have d1 : (x1 == 1) = false := by simp [c1]
  have d2 : (x1 == 2) = false := by simp [c2]
  have d3 : (x1 == 3) = false := by simp [c3]
  have d4 : (x1 == 4) = false := by simp [c4]
  clear c0 c1 c2 c3 c4
  go_wp2_with fail
  refine (pick_any _ g _ _ k1 (by omega) (by omega)).mono ?_
  rintro e2 w2 ⟨⟨x2, rfl, p2, q2⟩, k2, g2⟩
  go_wp2_with fail
  go_ret
  exact ⟨⟨_, rfl, by unfold I64; omega, trivial⟩, k2.mono (by omega), grown_then g1 g2⟩
end Go.Proofs.Ytemnkfigjpphgaa
