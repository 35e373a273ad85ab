/-
  The texts of forms and matrices, and how they are read back.
-/
import Derived.Test.YtlfbanoabipacaaDoorMxp
import Derived.Test.YtlfbanoabipacaaDoorInt
namespace Go.Proofs.YtlfbanoabipacaaDoor
open Go.RowKit
attribute [local simp, local go_sem] past_cell past_frozen past_tape
def bs (n : Int) : ByteArray := ⟨(Lib.itoa n).toArray⟩
def fS (a b c : Int) : ByteArray := ((((((⟨#[40]⟩ : ByteArray) ++ bs a) ++ ⟨#[44]⟩) ++ bs b) ++ ⟨#[44]⟩) ++ bs c) ++ ⟨#[41]⟩
def mS (a b c d : Int) : ByteArray := ((((((((⟨#[91]⟩ : ByteArray) ++ bs a) ++ ⟨#[44]⟩) ++ bs b) ++ ⟨#[59]⟩) ++ bs c) ++ ⟨#[44]⟩) ++ bs d) ++ ⟨#[93]⟩
theorem bd_I {n : Int} (h : Bd 1000000 n) : I64 n := ⟨by have := h.1; omega, by have := h.2; omega⟩
theorem bs_size {n : Int} (h : Bd 1000000 n) : (bs n).size ≤ 20 := by
  have := itoa_len (h.mono (show (1000000 : Int) ≤ 1000000000000 by decide))
  show (Lib.itoa n).toArray.size ≤ 20
  simpa using this
theorem itoa_past {W : World} (hT : Tab W) (x : Past W) (n : Int) (h : I64 n) : Calls Tryd.prog 64 #[.int .i64 n] (past W x) fun e w' => e = .returned (.string (bs n)) ∧ Below (past W x).heap.size (past W x) w' := itoa_any n _ h (hT.below x.below)
set_option maxHeartbeats 2000000 in
theorem formText_any (a b c : Int) (w : World) (ha : Bd 1000000 a) (hb : Bd 1000000 b) (hc : Bd 1000000 c) (ht : Tab w) : Calls Tryd.prog 55 #[.agg #[.int .i64 a, .int .i64 b, .int .i64 c]] w fun en w' => en = .returned (.string (fS a b c)) ∧ Below w.heap.size w w' := by
  have HTW := Lib.hid (fun (x : Past (w.alloc (.cells #[.int .i64 a, .int .i64 b, .int .i64 c] 44))) n h => itoa_past (ht.below ((Below.refl w.heap.size w).alloc (Nat.le_refl _) _)) x n h)
  have ia := bd_I ha
  have ib := bd_I hb
  have ic := bd_I hc
  have sa := bs_size ha
  have sb := bs_size hb
  have sc := bs_size hc
  go_enter Tryd.func55, Tryd.ntmps55
  go_wp2_with fail
  refine wp_region_past (by kernel_rfl) (by kernel_rfl) ?_
  repeat (first | go_big_quiet_skip | (go_big_quiet_want; go_big_quiet_op; first | go_big_quiet_on | (apply Exists.intro; refine ⟨fun _ => ?_, ?_⟩; (focus ((go_at_call 64; exact past_of (HTW.out _ _ (by assumption))))); go_big_quiet_on)))
  refine wpQuiet_nil ?_
  intro w1 hw'
  have hB1 := past_below hw'
  clear hw'
  obtain ⟨hC1, hF1⟩ := bcell hB1
  have hS1 := hB1.size
  (try simp at hS1)
  (try have hS1_w0 : w.heap.size < w1.heap.size := by omega)
  (try have hS1_w1 : w.heap.size + 1 < w1.heap.size := by omega)
  (try have hS1_w2 : w.heap.size + 1 + 1 < w1.heap.size := by omega)
  (try have hS1_w3 : w.heap.size + 1 + 1 + 1 < w1.heap.size := by omega)
  (try have hS1_w4 : w.heap.size + 1 + 1 + 1 + 1 < w1.heap.size := by omega)
  go_wp2_with fail
  go_ret
  refine ⟨rfl, ?_⟩
  repeat (first | with_reducible exact Below.refl _ _ | with_reducible assumption | ((with_reducible refine blA ?_ ?_); (focus (first | omega | (simp <;> omega)))) | (with_reducible refine blD ?_) | (with_reducible refine blN ?_) | ((with_reducible refine blS ?_ ?_); (focus (first | omega | (simp <;> omega)))) | ((with_reducible refine blT (by assumption) ?_ ?_); (focus (first | omega | (simp <;> omega)))))
set_option maxHeartbeats 2000000 in
theorem matrixText_any (a b c d : Int) (w : World) (ha : Bd 1000000 a) (hb : Bd 1000000 b) (hc : Bd 1000000 c) (hd : Bd 1000000 d) (ht : Tab w) : Calls Tryd.prog 45 #[.agg #[.int .i64 a, .int .i64 b, .int .i64 c, .int .i64 d]] w fun en w' => en = .returned (.string (mS a b c d)) ∧ Below w.heap.size w w' := by
  have HTW := Lib.hid (fun (x : Past (w.alloc (.cells #[.int .i64 a, .int .i64 b, .int .i64 c, .int .i64 d] 36))) n h => itoa_past (ht.below ((Below.refl w.heap.size w).alloc (Nat.le_refl _) _)) x n h)
  have ia := bd_I ha
  have ib := bd_I hb
  have ic := bd_I hc
  have id := bd_I hd
  have sa := bs_size ha
  have sb := bs_size hb
  have sc := bs_size hc
  have sd := bs_size hd
  go_enter Tryd.func45, Tryd.ntmps45
  go_wp2_with fail
  refine wp_region_past (by kernel_rfl) (by kernel_rfl) ?_
  repeat (first | go_big_quiet_skip | (go_big_quiet_want; go_big_quiet_op; first | go_big_quiet_on | (apply Exists.intro; refine ⟨fun _ => ?_, ?_⟩; (focus ((go_at_call 64; exact past_of (HTW.out _ _ (by assumption))))); go_big_quiet_on)))
  refine wpQuiet_nil ?_
  intro w1 hw'
  have hB1 := past_below hw'
  clear hw'
  obtain ⟨hC1, hF1⟩ := bcell hB1
  have hS1 := hB1.size
  (try simp at hS1)
  (try have hS1_w0 : w.heap.size < w1.heap.size := by omega)
  (try have hS1_w1 : w.heap.size + 1 < w1.heap.size := by omega)
  (try have hS1_w2 : w.heap.size + 1 + 1 < w1.heap.size := by omega)
  (try have hS1_w3 : w.heap.size + 1 + 1 + 1 < w1.heap.size := by omega)
  (try have hS1_w4 : w.heap.size + 1 + 1 + 1 + 1 < w1.heap.size := by omega)
  go_wp2_with fail
  go_ret
  refine ⟨rfl, ?_⟩
  repeat (first | with_reducible exact Below.refl _ _ | with_reducible assumption | ((with_reducible refine blA ?_ ?_); (focus (first | omega | (simp <;> omega)))) | (with_reducible refine blD ?_) | (with_reducible refine blN ?_) | ((with_reducible refine blS ?_ ?_); (focus (first | omega | (simp <;> omega)))) | ((with_reducible refine blT (by assumption) ?_ ?_); (focus (first | omega | (simp <;> omega)))))
theorem FormText_yes (a b c : Int) (w : World) (h : formB a b c = true) (ht : Tab w) : Calls Tryd.prog 24 #[.agg #[.int .i64 a, .int .i64 b, .int .i64 c]] w fun en w' => en = .returned (.tuple #[.string (fS a b c), .bool true]) ∧ Below w.heap.size w w' := by
  obtain ⟨ha, hb, hc⟩ := formB_bd h
  have HT := Lib.hid ht
  clear ht
  go_enter Tryd.func24, Tryd.ntmps24
  go_wp2_with fail
  refine (IsForm_any _ _ _ _).mono ?_
  rintro e1 w1 ⟨rfl, hB1⟩
  obtain ⟨hC1, hF1⟩ := bcell hB1
  have hS1 := hB1.size
  (try simp at hS1)
  (try have hS1_w0 : w.heap.size < w1.heap.size := by omega)
  (try have hS1_w1 : w.heap.size + 1 < w1.heap.size := by omega)
  (try have hS1_w2 : w.heap.size + 1 + 1 < w1.heap.size := by omega)
  (try have hS1_w3 : w.heap.size + 1 + 1 + 1 < w1.heap.size := by omega)
  (try have hS1_w4 : w.heap.size + 1 + 1 + 1 + 1 < w1.heap.size := by omega)
  (try have hL1_w0 : w.heap.size ≤ w1.heap.size := by omega)
  (try have hL1_w1 : w.heap.size + 1 ≤ w1.heap.size := by omega)
  (try have hL1_w2 : w.heap.size + 1 + 1 ≤ w1.heap.size := by omega)
  (try have hL1_w3 : w.heap.size + 1 + 1 + 1 ≤ w1.heap.size := by omega)
  (try have hL1_w : w.heap.size ≤ w1.heap.size + 1 := by omega)
  (try have hM1_1 : w.heap.size < w1.heap.size + 1 := by omega)
  (try have hM1_2 : w.heap.size < w1.heap.size + 1 + 1 := by omega)
  (try have hM1_3 : w.heap.size < w1.heap.size + 1 + 1 + 1 := by omega)
  have HT1 : Hid (Tab w1) := Lib.hid (HT.out.below (show Below w.heap.size w w1 by repeat (first | with_reducible exact Below.refl _ _ | with_reducible assumption | ((with_reducible refine blA ?_ ?_); (focus (first | omega | (simp <;> omega)))) | (with_reducible refine blD ?_) | (with_reducible refine blN ?_) | ((with_reducible refine blS ?_ ?_); (focus (first | omega | (simp <;> omega)))) | ((with_reducible refine blT (by assumption) ?_ ?_); (focus (first | omega | (simp <;> omega)))))))
  go_wp2_with fail
  refine (formText_any _ _ _ _ ha hb hc HT1.out).mono ?_
  rintro e2 w2 ⟨rfl, hB2⟩
  obtain ⟨hC2, hF2⟩ := bcell hB2
  have hS2 := hB2.size
  (try simp at hS2)
  (try have hS2_w0 : w.heap.size < w2.heap.size := by omega)
  (try have hS2_w1 : w.heap.size + 1 < w2.heap.size := by omega)
  (try have hS2_w2 : w.heap.size + 1 + 1 < w2.heap.size := by omega)
  (try have hS2_w3 : w.heap.size + 1 + 1 + 1 < w2.heap.size := by omega)
  (try have hS2_w4 : w.heap.size + 1 + 1 + 1 + 1 < w2.heap.size := by omega)
  (try have hL2_w0 : w.heap.size ≤ w2.heap.size := by omega)
  (try have hL2_w1 : w.heap.size + 1 ≤ w2.heap.size := by omega)
  (try have hL2_w2 : w.heap.size + 1 + 1 ≤ w2.heap.size := by omega)
  (try have hL2_w3 : w.heap.size + 1 + 1 + 1 ≤ w2.heap.size := by omega)
  (try have hL2_w : w.heap.size ≤ w2.heap.size + 1 := by omega)
  (try have hM2_1 : w.heap.size < w2.heap.size + 1 := by omega)
  (try have hM2_2 : w.heap.size < w2.heap.size + 1 + 1 := by omega)
  (try have hM2_3 : w.heap.size < w2.heap.size + 1 + 1 + 1 := by omega)
  (try have hN2_1_00 : w1.heap.size < w2.heap.size := by omega)
  (try have hN2_1_01 : w1.heap.size < w2.heap.size + 1 := by omega)
  (try have hN2_1_02 : w1.heap.size < w2.heap.size + 1 + 1 := by omega)
  (try have hN2_1_10 : w1.heap.size + 1 < w2.heap.size := by omega)
  (try have hN2_1_11 : w1.heap.size + 1 < w2.heap.size + 1 := by omega)
  (try have hN2_1_12 : w1.heap.size + 1 < w2.heap.size + 1 + 1 := by omega)
  (try have hN2_1_20 : w1.heap.size + 1 + 1 < w2.heap.size := by omega)
  (try have hN2_1_21 : w1.heap.size + 1 + 1 < w2.heap.size + 1 := by omega)
  (try have hN2_1_22 : w1.heap.size + 1 + 1 < w2.heap.size + 1 + 1 := by omega)
  (try have hL2_1 : w1.heap.size ≤ w2.heap.size := by omega)
  (try have hS2_1 : w1.heap.size < w2.heap.size := by omega)
  (try have hS2_1' : w1.heap.size + 1 < w2.heap.size := by omega)
  go_wp2_with fail
  refine bodyPost_ret (v := .tuple #[.string (fS a b c), .bool true]) (by go_light; simp [results, Tryd.results24, go_sem, *]) rfl ⟨rfl, ?_⟩
  repeat (first | with_reducible exact Below.refl _ _ | with_reducible assumption | ((with_reducible refine blA ?_ ?_); (focus (first | omega | (simp <;> omega)))) | (with_reducible refine blD ?_) | (with_reducible refine blN ?_) | ((with_reducible refine blS ?_ ?_); (focus (first | omega | (simp <;> omega)))) | ((with_reducible refine blT (by assumption) ?_ ?_); (focus (first | omega | (simp <;> omega)))))
theorem MatrixText_yes (a b c d : Int) (w : World) (h : mB a b c d = true) (ht : Tab w) : Calls Tryd.prog 17 #[.agg #[.int .i64 a, .int .i64 b, .int .i64 c, .int .i64 d]] w fun en w' => en = .returned (.tuple #[.string (mS a b c d), .bool true]) ∧ Below w.heap.size w w' := by
  obtain ⟨ha, hb, hc, hd⟩ := mB_bd h
  have HT := Lib.hid ht
  clear ht
  go_enter Tryd.func17, Tryd.ntmps17
  go_wp2_with fail
  refine (iMatrix_any _ _ _ _ _).mono ?_
  rintro e1 w1 ⟨rfl, hB1⟩
  obtain ⟨hC1, hF1⟩ := bcell hB1
  have hS1 := hB1.size
  (try simp at hS1)
  (try have hS1_w0 : w.heap.size < w1.heap.size := by omega)
  (try have hS1_w1 : w.heap.size + 1 < w1.heap.size := by omega)
  (try have hS1_w2 : w.heap.size + 1 + 1 < w1.heap.size := by omega)
  (try have hS1_w3 : w.heap.size + 1 + 1 + 1 < w1.heap.size := by omega)
  (try have hS1_w4 : w.heap.size + 1 + 1 + 1 + 1 < w1.heap.size := by omega)
  (try have hL1_w0 : w.heap.size ≤ w1.heap.size := by omega)
  (try have hL1_w1 : w.heap.size + 1 ≤ w1.heap.size := by omega)
  (try have hL1_w2 : w.heap.size + 1 + 1 ≤ w1.heap.size := by omega)
  (try have hL1_w3 : w.heap.size + 1 + 1 + 1 ≤ w1.heap.size := by omega)
  (try have hL1_w : w.heap.size ≤ w1.heap.size + 1 := by omega)
  (try have hM1_1 : w.heap.size < w1.heap.size + 1 := by omega)
  (try have hM1_2 : w.heap.size < w1.heap.size + 1 + 1 := by omega)
  (try have hM1_3 : w.heap.size < w1.heap.size + 1 + 1 + 1 := by omega)
  have HT1 : Hid (Tab w1) := Lib.hid (HT.out.below (show Below w.heap.size w w1 by repeat (first | with_reducible exact Below.refl _ _ | with_reducible assumption | ((with_reducible refine blA ?_ ?_); (focus (first | omega | (simp <;> omega)))) | (with_reducible refine blD ?_) | (with_reducible refine blN ?_) | ((with_reducible refine blS ?_ ?_); (focus (first | omega | (simp <;> omega)))) | ((with_reducible refine blT (by assumption) ?_ ?_); (focus (first | omega | (simp <;> omega)))))))
  go_wp2_with fail
  refine (matrixText_any _ _ _ _ _ ha hb hc hd HT1.out).mono ?_
  rintro e2 w2 ⟨rfl, hB2⟩
  obtain ⟨hC2, hF2⟩ := bcell hB2
  have hS2 := hB2.size
  (try simp at hS2)
  (try have hS2_w0 : w.heap.size < w2.heap.size := by omega)
  (try have hS2_w1 : w.heap.size + 1 < w2.heap.size := by omega)
  (try have hS2_w2 : w.heap.size + 1 + 1 < w2.heap.size := by omega)
  (try have hS2_w3 : w.heap.size + 1 + 1 + 1 < w2.heap.size := by omega)
  (try have hS2_w4 : w.heap.size + 1 + 1 + 1 + 1 < w2.heap.size := by omega)
  (try have hL2_w0 : w.heap.size ≤ w2.heap.size := by omega)
  (try have hL2_w1 : w.heap.size + 1 ≤ w2.heap.size := by omega)
  (try have hL2_w2 : w.heap.size + 1 + 1 ≤ w2.heap.size := by omega)
  (try have hL2_w3 : w.heap.size + 1 + 1 + 1 ≤ w2.heap.size := by omega)
  (try have hL2_w : w.heap.size ≤ w2.heap.size + 1 := by omega)
  (try have hM2_1 : w.heap.size < w2.heap.size + 1 := by omega)
  (try have hM2_2 : w.heap.size < w2.heap.size + 1 + 1 := by omega)
  (try have hM2_3 : w.heap.size < w2.heap.size + 1 + 1 + 1 := by omega)
  (try have hN2_1_00 : w1.heap.size < w2.heap.size := by omega)
  (try have hN2_1_01 : w1.heap.size < w2.heap.size + 1 := by omega)
  (try have hN2_1_02 : w1.heap.size < w2.heap.size + 1 + 1 := by omega)
  (try have hN2_1_10 : w1.heap.size + 1 < w2.heap.size := by omega)
  (try have hN2_1_11 : w1.heap.size + 1 < w2.heap.size + 1 := by omega)
  (try have hN2_1_12 : w1.heap.size + 1 < w2.heap.size + 1 + 1 := by omega)
  (try have hN2_1_20 : w1.heap.size + 1 + 1 < w2.heap.size := by omega)
  (try have hN2_1_21 : w1.heap.size + 1 + 1 < w2.heap.size + 1 := by omega)
  (try have hN2_1_22 : w1.heap.size + 1 + 1 < w2.heap.size + 1 + 1 := by omega)
  (try have hL2_1 : w1.heap.size ≤ w2.heap.size := by omega)
  (try have hS2_1 : w1.heap.size < w2.heap.size := by omega)
  (try have hS2_1' : w1.heap.size + 1 < w2.heap.size := by omega)
  go_wp2_with fail
  refine bodyPost_ret (v := .tuple #[.string (mS a b c d), .bool true]) (by go_light; simp [results, Tryd.results17, go_sem, *]) rfl ⟨rfl, ?_⟩
  repeat (first | with_reducible exact Below.refl _ _ | with_reducible assumption | ((with_reducible refine blA ?_ ?_); (focus (first | omega | (simp <;> omega)))) | (with_reducible refine blD ?_) | (with_reducible refine blN ?_) | ((with_reducible refine blS ?_ ?_); (focus (first | omega | (simp <;> omega)))) | ((with_reducible refine blT (by assumption) ?_ ?_); (focus (first | omega | (simp <;> omega)))))
theorem gap1 {b : UInt8} (h : b.toNat < 128) (h2 : sepP b.toNat = true) : GapOk [b] := fun c hc => by
  have hc' : c = b := by simpa using hc
  rw [hc']; exact ⟨h, h2⟩
/-- Integers between single bytes are read back. -/
theorem inI_gaps {s : ByteArray} (r : List (UInt8 × Int)) (last : UInt8) (hs : s.data.toList = txt (r.map fun x => ([x.1], Lib.itoa x.2)) ++ [last]) (hl : last.toNat < 128 ∧ sepP last.toNat = true) (hr : ∀ x ∈ r, x.1.toNat < 128 ∧ sepP x.1.toNat = true ∧ Bd 1000000000000 x.2) : inI s = r.map fun x => x.2 := by
  have hf := fields_txt (s := s) _ _ hs (gap1 hl.1 hl.2) (fun y hy => by
    obtain ⟨x, hx, rfl⟩ := List.mem_map.1 hy
    obtain ⟨h1, h2, _⟩ := hr x hx
    exact ⟨gap1 h1 h2, itoa_word _⟩) (fun y hy => by
    obtain ⟨x, hx, rfl⟩ := List.mem_map.1 (List.mem_of_mem_drop hy)
    simp)
  unfold inI
  rw [hf, List.map_map]
  have e : r.map ((fun y : List UInt8 × List UInt8 => (⟨y.2.toArray⟩ : ByteArray)) ∘ fun x => ([x.1], Lib.itoa x.2)) = r.map fun x => (⟨(Lib.itoa x.2).toArray⟩ : ByteArray) := rfl
  rw [e, seqO_map (fun w : ByteArray => atO w.data.toList) (fun x : UInt8 × Int => (⟨(Lib.itoa x.2).toArray⟩ : ByteArray)) (fun x => x.2) r fun n hn => by
    show atO ((Lib.itoa n.2).toArray).toList = _
    rw [List.toList_toArray]
    exact atO_itoa (hr n hn).2.2]
  rfl
theorem gp {b : UInt8} {n : Int} (h : b.toNat < 128 ∧ sepP b.toNat = true) (hn : Bd 1000000000000 n) : (b, n).1.toNat < 128 ∧ sepP (b, n).1.toNat = true ∧ Bd 1000000000000 (b, n).2 := ⟨h.1, h.2, hn⟩
theorem fS_inI {a b c : Int} (ha : Bd 1000000 a) (hb : Bd 1000000 b) (hc : Bd 1000000 c) : inI (fS a b c) = [a, b, c] := by
  refine inI_gaps [(40, a), (44, b), (44, c)] 41 ?_ (by decide) ?_
  · simp [fS, bs, txt, ByteArray.data_append]
  · intro x hx
    simp at hx
    rcases hx with rfl | rfl | rfl
    · exact gp (by decide) (ha.mono (by decide))
    · exact gp (by decide) (hb.mono (by decide))
    · exact gp (by decide) (hc.mono (by decide))
theorem mS_inI {a b c d : Int} (ha : Bd 1000000 a) (hb : Bd 1000000 b) (hc : Bd 1000000 c) (hd : Bd 1000000 d) : inI (mS a b c d) = [a, b, c, d] := by
  refine inI_gaps [(91, a), (44, b), (59, c), (44, d)] 93 ?_ (by decide) ?_
  · simp [mS, bs, txt, ByteArray.data_append]
  · intro x hx
    simp at hx
    rcases hx with rfl | rfl | rfl | rfl
    · exact gp (by decide) (ha.mono (by decide))
    · exact gp (by decide) (hb.mono (by decide))
    · exact gp (by decide) (hc.mono (by decide))
    · exact gp (by decide) (hd.mono (by decide))
end Go.Proofs.YtlfbanoabipacaaDoor
