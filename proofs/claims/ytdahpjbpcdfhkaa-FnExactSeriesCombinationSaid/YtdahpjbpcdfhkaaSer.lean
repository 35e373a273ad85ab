/-
  Series: the law's copies of lists of integers; when a list is a series, both ways.
-/
import Derived.Test.YtdahpjbpcdfhkaaRwsL
import Derived.Test.YtdahpjbpcdfhkaaNum
import Derived.Test.YtdahpjbpcdfhkaaForm
namespace Go.Proofs.Ytdahpjbpcdfhkaa
open Go.RowKit
attribute [local simp, local go_sem] past_cell past_frozen past_tape
/-- A list of integers that came in. -/
def IArg (w : World) (a : Option Addr) (len : Nat) (zs : List Int) : Prop := zs.length = len ∧ (len = 0 ∨ ∃ ad, a = some ad ∧ ad.block < w.heap.size ∧ ∀ (k : Nat) (x : Int), zs[k]? = some x → w.cell? (ad.add k) = some (.int .i64 x))
theorem add_blk (a : Addr) (n : Nat) : (a.add n).block = a.block := by unfold Addr.add; split <;> rfl
theorem IArg.later {w w' : World} {a : Option Addr} {len : Nat} {zs : List Int} (h : IArg w a len zs) (hb : Below w.heap.size w w') : IArg w' a len zs := by
  refine ⟨h.1, ?_⟩
  rcases h.2 with h0 | ⟨ad, h1, h2, h3⟩
  · exact .inl h0
  · have := hb.size
    exact .inr ⟨ad, h1, by omega, fun k x hx => by rw [hb.cell (by rw [add_blk]; exact h2)]; exact h3 k x hx⟩
theorem flat_c1 (l : List Int) : l.flatMap c1 = l.map (.int .i64) := by
  induction l with
  | nil => rfl
  | cons x l ih => simp [c1] at ih ⊢; exact ih
set_option maxRecDepth 100000 in
set_option maxHeartbeats 4000000 in
theorem toIntS_any (a : Option Addr) (len cap : Nat) (zs : List Int) (w : World) (h : IArg w a len zs) (hl : len ≤ 1048576) (hlc : len ≤ cap) :
    Calls Try.prog 23 #[.slice a len cap] w fun en w' => ∃ v, en = .returned v ∧ Rw w.heap.size 3 1 c1 w' v zs ∧ Below w.heap.size w w' := by
  obtain ⟨i, hi1, hiz, hisz, hiby⟩ := info_parts (P := Try.prog) (e := 3) (z := .int .i64 0) (size := 1) (bytes := 8) (by kernel_rfl)
  obtain ⟨hz, h⟩ := h
  go_enter Try.func23, Try.ntmps23
  go_wp2_with (at_make; refine wpList_make_full _ rfl _ _ _ rfl w.heap.size 3 i (.int .i64 0) 1 (by kernel_rfl) hi1 hiz hisz .i64 .i64 len len len rfl rfl rfl rfl (by rw [hiby]; omega) (by unfold maxLen; omega) (Nat.le_refl _) ?_; intro wm hown hgrow)
  have hB : Below w.heap.size w wm := Below.grown (Below.refl _ _) hgrow (Nat.le_refl _) (fun k hk => by cases hk)
  have HO := Lib.hid hown
  have HB := Lib.hid hB
  have HH := Lib.hid h
  have HZ := Lib.hid hz
  clear hown hgrow hB h hz
  go_wp2
  go_loopw [4] (fun i wr => ∃ k : Nat, k ≤ len ∧ i = .int .i64 (k : Int) ∧ Hid (∃ xs, wr.ownsRow w.heap.size 3 1 (.slice (some ⟨w.heap.size, 0, none⟩) len len) len xs ∧ ∀ j, j < k → xs[j]? = (zs.map (.int .i64))[j]?) ∧ Hid (Below w.heap.size w wr)) (fun i _ => len - (intOf i).toNat)
  case atStart => exact ⟨0, by omega, rfl, ⟨_, HO.out, fun j hj => absurd hj (by omega)⟩, HB.out⟩
  case round =>
    obtain ⟨k, hk, rfl, hown, hb⟩ := hrel
    have hbz := hb.out.size
    by_cases hkl : k < len
    · obtain ⟨xs, hown, hm⟩ := hown.out
      have hlen := hown.1
      obtain ⟨x, hx⟩ := get_some HZ.out hkl
      rcases HH.out with h0 | ⟨ad, rfl, hbl, hcell⟩
      · omega
      have e1 : wr.cell? (ad.add k) = some (.int .i64 x) := by rw [hb.out.cell (by rw [add_blk]; exact hbl)]; exact hcell k x hx
      obtain ⟨u0, d0⟩ : ∃ u, wr.cell? ⟨w.heap.size, k, none⟩ = some u := ⟨_, by rw [hown.cellAt _ (by omega), List.getElem?_eq_getElem (by rw [hown.1]; omega)]⟩
      have hfr : ∀ o, wr.frozen? ⟨w.heap.size, o, none⟩ = false := fun o => hown.frozenAt o
      have st0 := hown.stored k (.int .i64 x)
      have hnew := Lib.hid st0.1
      have hm2 : Hid (∀ j, j < k + 1 → (xs.set k (.int .i64 x))[j]? = (zs.map (.int .i64))[j]?) := by
        show ∀ j, _ → _
        intro j hj
        by_cases hjk : j = k
        · subst hjk
          rw [List.getElem?_set_self (by omega), List.getElem?_map, hx]
          rfl
        · rw [List.getElem?_set_ne (by omega), hm j (by omega)]
      clear hown st0 hm hx hcell
      go_wp2
      go_roundw
      case rel =>
        go_light
        refine ⟨k + 1, by omega, by go_num, ⟨_, hnew.out, hm2.out⟩, ?_⟩
        show Below _ _ _
        have h := hb.out
        exact h.setCell (Nat.le_refl _) _
      case measure => simp [intOf]; omega
    · have hk' : k = len := by omega
      subst hk'
      go_wp2
      go_ret
      refine ⟨_, rfl, ?_, hb.out⟩
      obtain ⟨xs, hown, hm⟩ := hown.out
      have hxs : xs = zs.flatMap c1 := by
        rw [flat_c1]
        apply List.ext_getElem?
        intro j
        by_cases hj : j < k
        · exact hm j hj
        · have h1 := hown.1
          have h2 := HZ.out
          rw [List.getElem?_eq_none (by omega), List.getElem?_eq_none (by simp; omega)]
      unfold Rw
      rw [HZ.out, ← hxs]
      exact hown
def serB (l : List Int) : Bool := decide (1 ≤ l.length ∧ l.length ≤ 101) && l.all numB
theorem all_take1 {l : List Int} {k : Nat} {x : Int} (h : l[k]? = some x) : (l.take (k + 1)).all numB = ((l.take k).all numB && numB x) := by
  rw [List.take_add_one, h, List.all_append]
  simp
theorem all_no1 {l : List Int} {k : Nat} {x : Int} (h : l[k]? = some x) (hn : numB x = false) : l.all numB = false := by
  rw [List.all_eq_false]
  exact ⟨x, List.mem_of_getElem? h, by simp [hn]⟩
set_option maxHeartbeats 2000000 in
theorem areNums_any (B n cap : Nat) (a : Option Addr) (l : List Int) (w : World) (hn : l.length = n) (h : Sees B 1 c1 w a l) (hl : n ≤ 1100000) : Calls Try.prog 53 #[.slice a n cap] w fun en w' => en = .returned (.bool (l.all numB)) ∧ w = w' := by
  have H := Lib.hid h
  have HN := Lib.hid hn
  clear h hn
  go_enter Try.func53, Try.ntmps53
  go_wp2
  go_loop [7] (fun i => ∃ k : Nat, k ≤ n ∧ i = .int .i64 (k : Int) ∧ Hid ((l.take k).all numB = true)) (fun i => n - (intOf i).toNat)
  case atStart => exact ⟨0, Nat.zero_le _, rfl, by show _ = _; simp⟩
  case round =>
    obtain ⟨k, hk, rfl, hall⟩ := hrel
    by_cases hlt : k < n
    · obtain ⟨x, hx⟩ := get_some HN.out hlt
      have HT := Lib.hid (all_take1 hx)
      have HNO := Lib.hid (all_no1 hx)
      rcases H.out with h0 | ⟨g, rfl, _, _, hcell, _⟩
      · have := HN.out; omega
      have hc : w.cell? ⟨g, k, none⟩ = some (.int .i64 x) := by have := hcell k x hx 0 (by omega); simpa [c1] using this
      clear hcell hx
      go_wp2
      all_goals first
        | (go_round
           case rel =>
             go_light
             refine ⟨k + 1, by omega, by go_num, ?_⟩
             show _ = _
             rw [HT.out, hall.out, Bool.true_and]
             unfold numB
             exact decide_eq_true ⟨by omega, by omega⟩
           case measure => simp [intOf]; omega)
        | (go_ret
           refine ⟨ret_bool ?_, rfl⟩
           go_light
           rw [HNO.out (by unfold numB; exact decide_eq_false (by omega))])
    · go_wp2
      go_ret
      refine ⟨ret_bool ?_, rfl⟩
      have := hall.out
      rw [List.take_of_length_le (by have := HN.out; omega)] at this
      exact this.symm
set_option maxHeartbeats 2000000 in
theorem thGood_any (B n cap : Nat) (a : Option Addr) (l : List Int) (w : World) (hn : l.length = n) (h : Sees B 1 c1 w a l) (hl : n ≤ 1100000) : Calls Try.prog 48 #[.slice a n cap] w fun en w' => en = .returned (.bool (serB l)) ∧ w = w' := by
  have H := Lib.hid h
  have HN := Lib.hid hn
  clear h hn
  go_enter Try.func48, Try.ntmps48
  go_wp2
  go_loop [7] (fun i => ∃ k : Nat, k ≤ n ∧ i = .int .i64 (k : Int) ∧ Hid ((l.take k).all numB = true)) (fun i => n - (intOf i).toNat)
  case atStart => exact ⟨0, Nat.zero_le _, rfl, by show _ = _; simp⟩
  case round =>
    obtain ⟨k, hk, rfl, hall⟩ := hrel
    by_cases hlt : k < n
    · obtain ⟨x, hx⟩ := get_some HN.out hlt
      have HT := Lib.hid (all_take1 hx)
      have HNO := Lib.hid (all_no1 hx)
      rcases H.out with h0 | ⟨g, rfl, _, _, hcell, _⟩
      · have := HN.out; omega
      have hc : w.cell? ⟨g, k, none⟩ = some (.int .i64 x) := by have := hcell k x hx 0 (by omega); simpa [c1] using this
      clear hcell hx
      cases cx : numB x with
      | true =>
        go_wp2_with (go_at_call 46; refine (nuGood_any _ _).mono ?_; rintro e w' ⟨rfl, rfl⟩)
        go_round
        case rel =>
          go_light
          refine ⟨k + 1, by omega, by go_num, ?_⟩
          show _ = _
          rw [HT.out, hall.out, Bool.true_and, cx]
        case measure => simp [intOf]; omega
      | false =>
        have HS : Hid (serB l = false) := by show _ = _; rw [serB, HNO.out cx, Bool.and_false]
        go_wp2_with (go_at_call 46; refine (nuGood_any _ _).mono ?_; rintro e w' ⟨rfl, rfl⟩)
        go_ret
        exact ⟨ret_bool HS.out.symm, rfl⟩
    · have hk' : k = n := by omega
      subst hk'
      have HS : Hid (serB l = inB (k : Int) 1 101) := by
        show _ = _
        have := hall.out
        rw [List.take_of_length_le (by have := HN.out; omega)] at this
        rw [serB, this, Bool.and_true, HN.out]
        unfold inB
        rw [decide_eq_decide]
        omega
      go_wp2_with (go_at_call 56; refine (l1In_any _ _ _ _).mono ?_; rintro e w' ⟨rfl, rfl⟩)
      go_ret
      exact ⟨ret_bool HS.out.symm, rfl⟩
theorem isSeries_any (B n cap : Nat) (a : Option Addr) (l : List Int) (w : World) (hn : l.length = n) (h : Sees B 1 c1 w a l) (hl : n ≤ 1100000) : Calls Try.prog 51 #[.slice a n cap] w fun en w' => en = .returned (.bool (serB l)) ∧ w = w' := by
  have hcall : Hid (∀ cap, Calls Try.prog 53 #[.slice a n cap] w fun en w' => en = .returned (.bool (l.all numB)) ∧ w = w') := fun cap => areNums_any B n cap a l w hn h hl
  by_cases h1 : 1 ≤ n
  · by_cases h2 : n ≤ 101
    · have HS : Hid (serB l = l.all numB) := by show _ = _; rw [serB, hn, decide_eq_true ⟨h1, h2⟩, Bool.true_and]
      clear h hn
      go_enter Try.func51, Try.ntmps51
      go_wp2_with (go_at_call 53; refine (hcall.out _).mono ?_; rintro e w' ⟨rfl, rfl⟩)
      go_ret
      exact ⟨ret_bool HS.out.symm, rfl⟩
    · have HS : Hid (serB l = false) := by show _ = _; rw [serB, hn, decide_eq_false (fun h => h2 h.2), Bool.false_and]
      clear h hn
      go_enter Try.func51, Try.ntmps51
      go_wp2
      go_ret
      exact ⟨ret_bool HS.out.symm, rfl⟩
  · have HS : Hid (serB l = false) := by show _ = _; rw [serB, hn, decide_eq_false (fun h => h1 h.1), Bool.false_and]
    have h0 : n = 0 := by omega
    subst h0
    clear h hn h1
    go_enter Try.func51, Try.ntmps51
    go_wp2
    go_ret
    exact ⟨ret_bool HS.out.symm, rfl⟩
end Go.Proofs.Ytdahpjbpcdfhkaa
