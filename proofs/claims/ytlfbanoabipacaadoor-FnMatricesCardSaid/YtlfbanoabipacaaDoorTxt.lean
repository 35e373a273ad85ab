/-
  Numbers as texts: the reference's way.
-/
import Derived.Test.YtlfbanoabipacaaDoorMix
import Derived.Test.YtlfbanoabipacaaDoorNum
import Derived.Test.YtlfbanoabipacaaDoorEnd
import Derived.Lib.ItoaNum
import Derived.Laws.IdiomStrings
namespace Go.Proofs.YtlfbanoabipacaaDoor
open Go.RowKit
attribute [local simp, local go_sem] past_cell past_frozen past_tape
theorem conv1 (w : World) (blk cap : Nat) (n : Nat) (x : Int) (hx : x = 48 + (n : Int)) (hn : n < 10) (h : w.cell? ⟨blk, 0, none⟩ = some (.int .u8 x)) :
    (convert 33 9 (.slice (some ⟨blk, 0, none⟩) 1 cap)).run Tryd.prog w = .ok (.string ⟨#[UInt8.ofNat (48 + n)]⟩) w := by
  have := run_convert_bytes_back (P := Tryd.prog) w 33 9 5 ⟨blk, 0, none⟩ cap [UInt8.ofNat (48 + n)] Tryd.underlying33 Tryd.underlying5 Tryd.underlying9 (fun j hj => by
    have hj0 : j = 0 := by simp at hj; exact hj
    subst hj0
    show w.cell? ⟨blk, 0, none⟩ = _
    rw [h, hx]
    have : ([UInt8.ofNat (48 + n)][0]'hj).toNat = 48 + n := by
      show (UInt8.ofNat (48 + n)).toNat = 48 + n
      rw [UInt8.toNat_ofNat']
      omega
    rw [this]
    simp)
  simpa using this
theorem ba_app (a b : List UInt8) : (⟨a.toArray⟩ : ByteArray) ++ ⟨b.toArray⟩ = ⟨(a ++ b).toArray⟩ := by
  apply ByteArray.ext
  rw [ByteArray.data_append]
  simp
theorem dec_len : ∀ k u : Nat, u < 10 ^ (k + 1) → (Lib.decDigits u).length ≤ k + 1
  | 0, u, h => by
    rw [Lib.decDigits_one (by omega)]
    simp
  | k + 1, u, h => by
    by_cases h10 : u < 10
    · rw [Lib.decDigits_one h10]
      simp
    · rw [Lib.decDigits, dif_neg h10, List.length_append]
      have := dec_len k (u / 10) (by rw [Nat.pow_succ] at h; omega)
      simp
      omega
theorem dec_size {u : Nat} (h : u ≤ 9000000000000000000) : (Lib.decDigits u).length ≤ 19 := dec_len 18 u (by omega)
set_option maxRecDepth 100000 in
set_option maxHeartbeats 2000000 in
theorem l1Num_any : ∀ (b n : Nat) (w : World), n ≤ b → n ≤ 9000000000000000000 → Calls Tryd.prog 80 #[.int .i64 (n : Int)] w fun en w' => en = .returned (.string ⟨(Lib.decDigits n).toArray⟩) ∧ Below w.heap.size w w'
  | b, n, w, hb, hn => by
    by_cases h : n < 10
    · have HD : Hid (Lib.decDigits n = [UInt8.ofNat (48 + n)]) := Lib.decDigits_one h
      go_enter Tryd.func80, Tryd.ntmps80
      go_wp2
      rw [conv1 _ _ _ n _ rfl h (by simp [go_sem])]
      go_wp2
      go_ret
      refine ⟨?_, (Below.refl _ _).alloc (Nat.le_refl _) _⟩
      rw [HD.out]
      simp
    · obtain ⟨b, rfl⟩ : ∃ c, b = c + 1 := ⟨b - 1, by omega⟩
      have HD : Hid (Lib.decDigits n = Lib.decDigits (n / 10) ++ [UInt8.ofNat (48 + n % 10)]) := by
        show _ = _
        conv => lhs; rw [Lib.decDigits, dif_neg h]
      have hrec : Hid (∀ w0, Calls Tryd.prog 80 #[.int .i64 ((n : Int) / 10)] w0 fun en w' => en = .returned (.string ⟨(Lib.decDigits (n / 10)).toArray⟩) ∧ Below w0.heap.size w0 w') := fun w0 => by
        have := l1Num_any b (n / 10) w0 (by omega) (by omega)
        rwa [show ((n / 10 : Nat) : Int) = (n : Int) / 10 by omega] at this
      have hl1 : (Lib.decDigits (n / 10)).length ≤ 19 := dec_size (by omega)
      go_enter Tryd.func80, Tryd.ntmps80
      go_wp2_with fail
      refine region_mix 9 [0, 1, 2, 3, 4, 5, 6] [(false, 7), (false, 8)] (by kernel_rfl) (by kernel_rfl) (by kernel_rfl) ?_
      apply Exists.intro
      refine ⟨fun w0 hw0 => ?_, ?_⟩
      · obtain ⟨hC0, hF0⟩ := bcell hw0
        have hS0 := hw0.size
        (try simp at hS0)
        (try have hS0_w0 : w.heap.size < w0.heap.size := by omega)
        (try have hS0_w1 : w.heap.size + 1 < w0.heap.size := by omega)
        (try have hS0_w2 : w.heap.size + 1 + 1 < w0.heap.size := by omega)
        (try have hS0_w3 : w.heap.size + 1 + 1 + 1 < w0.heap.size := by omega)
        (try have hS0_w4 : w.heap.size + 1 + 1 + 1 + 1 < w0.heap.size := by omega)
        (try have hL0_w0 : w.heap.size ≤ w0.heap.size := by omega)
        (try have hL0_w1 : w.heap.size + 1 ≤ w0.heap.size := by omega)
        (try have hL0_w2 : w.heap.size + 1 + 1 ≤ w0.heap.size := by omega)
        (try have hL0_w3 : w.heap.size + 1 + 1 + 1 ≤ w0.heap.size := by omega)
        (try have hL0_w : w.heap.size ≤ w0.heap.size + 1 := by omega)
        (try have hM0_1 : w.heap.size < w0.heap.size + 1 := by omega)
        (try have hM0_2 : w.heap.size < w0.heap.size + 1 + 1 := by omega)
        (try have hM0_3 : w.heap.size < w0.heap.size + 1 + 1 + 1 := by omega)
        skip
        simp only [List.filterMap_cons, List.filterMap_nil, List.getElem?_cons_zero, List.getElem?_cons_succ]
        show wpQuiet _ _ _ _ [_, _, _, _, _, _, _] _
        repeat (first | go_big_quiet_skip | (go_big_quiet_want; go_big_quiet_op; first | go_big_quiet_on | (apply Exists.intro; refine ⟨fun _ => ?_, ?_⟩; (focus ((go_at_call 80; exact past_of (hrec.out _)))); go_big_quiet_on)))
        refine wpQuiet_nil ?_
        rfl
      intro W hW hWz
      simp only [List.filterMap_cons, List.filterMap_nil, List.getElem?_cons_zero, List.getElem?_cons_succ, Option.map_some, List.drop_succ_cons, List.drop_zero]
      show effW _ _ _ _ [(false, _), (false, _)] _ _
      refine effM_of fun wa hBa => ?_
      have hza := hBa.size
      try simp at hza
      go_wp2
      refine effQ_of rfl (by repeat (first | with_reducible exact Below.refl _ _ | with_reducible assumption | ((with_reducible refine blA ?_ ?_); (focus (first | omega | (simp <;> omega)))) | (with_reducible refine blD ?_) | (with_reducible refine blN ?_) | ((with_reducible refine blS ?_ ?_); (focus (first | omega | (simp <;> omega)))) | ((with_reducible refine blT (by assumption) ?_ ?_); (focus (first | omega | (simp <;> omega)))))) ?_
      refine effM_of fun wb hBb => ?_
      have hzb := hBb.size
      try simp at hzb
      have hcb : wb.cell? ⟨wa.heap.size, 0, none⟩ = some (.int .u8 (48 + (n : Int) % 10)) := by rw [bG hBb (by simp)]; simp [go_sem]
      go_wp2
      rw [conv1 _ _ _ (n % 10) _ (by omega) (by omega) hcb]
      go_wp2
      refine effQ_of rfl (by repeat (first | with_reducible exact Below.refl _ _ | with_reducible assumption | ((with_reducible refine blA ?_ ?_); (focus (first | omega | (simp <;> omega)))) | (with_reducible refine blD ?_) | (with_reducible refine blN ?_) | ((with_reducible refine blS ?_ ?_); (focus (first | omega | (simp <;> omega)))) | ((with_reducible refine blT (by assumption) ?_ ?_); (focus (first | omega | (simp <;> omega)))))) ?_
      intro wl hwl
      have hBl := past_below hwl
      clear hwl
      have hzl := hBl.size
      have hzW := hW.size
      try simp at hzW
      have hBW : Below w.heap.size w wl := by repeat (first | with_reducible exact Below.refl _ _ | with_reducible assumption | ((with_reducible refine blA ?_ ?_); (focus (first | omega | (simp <;> omega)))) | (with_reducible refine blD ?_) | (with_reducible refine blN ?_) | ((with_reducible refine blS ?_ ?_); (focus (first | omega | (simp <;> omega)))) | ((with_reducible refine blT (by assumption) ?_ ?_); (focus (first | omega | (simp <;> omega)))))
      go_wp2
      go_ret
      refine ⟨?_, hBW⟩
      rw [HD.out, ← ba_app]
      simp
set_option maxHeartbeats 1000000 in
theorem l1Int_any (n : Int) (w : World) (h : Bd 1000000000000 n) : Calls Tryd.prog 66 #[.int .i64 n] w fun en w' => en = .returned (.string ⟨(Lib.itoa n).toArray⟩) ∧ Below w.heap.size w w' := by
  obtain ⟨h1, h2⟩ := h
  by_cases c : n < 0
  · have HI : Hid (Lib.itoa n = 45 :: Lib.decDigits n.natAbs) := by show _ = _; rw [Lib.itoa, if_pos c]
    have hcall : Hid (∀ w0, Calls Tryd.prog 80 #[.int .i64 (-n)] w0 fun en w' => en = .returned (.string ⟨(Lib.decDigits n.natAbs).toArray⟩) ∧ Below w0.heap.size w0 w') := fun w0 => by
      have := l1Num_any n.natAbs n.natAbs w0 (Nat.le_refl _) (by omega)
      rwa [show ((n.natAbs : Nat) : Int) = -n by omega] at this
    have hl1 : (Lib.decDigits n.natAbs).length ≤ 19 := dec_size (by omega)
    go_enter Tryd.func66, Tryd.ntmps66
    go_wp2_with (go_at_call 80; refine (hcall.out _).mono ?_; rintro e w' ⟨rfl, hB⟩; obtain ⟨hC, hF⟩ := bcell hB; have hS := hB.size; (try simp at hS); (try have hSl := Nat.lt_of_succ_le hS); (try have hS0 : w.heap.size < w'.heap.size := by omega); (try have hS1 : w.heap.size + 1 < w'.heap.size := by omega); (try have hS2 : w.heap.size + 1 + 1 < w'.heap.size := by omega); (try have hS3 : w.heap.size + 1 + 1 + 1 < w'.heap.size := by omega))
    go_ret
    refine ⟨?_, hB⟩
    rw [HI.out, show (45 :: Lib.decDigits n.natAbs) = [45] ++ Lib.decDigits n.natAbs from rfl, ← ba_app]
    rfl
  · have HI : Hid (Lib.itoa n = Lib.decDigits n.toNat) := by show _ = _; rw [Lib.itoa, if_neg c]
    have hcall : Hid (∀ w0, Calls Tryd.prog 80 #[.int .i64 n] w0 fun en w' => en = .returned (.string ⟨(Lib.decDigits n.toNat).toArray⟩) ∧ Below w0.heap.size w0 w') := fun w0 => by
      have := l1Num_any n.toNat n.toNat w0 (Nat.le_refl _) (by omega)
      rwa [show ((n.toNat : Nat) : Int) = n by omega] at this
    go_enter Tryd.func66, Tryd.ntmps66
    go_wp2_with (go_at_call 80; refine (hcall.out _).mono ?_; rintro e w' ⟨rfl, hB⟩; obtain ⟨hC, hF⟩ := bcell hB; have hS := hB.size; (try simp at hS); (try have hSl := Nat.lt_of_succ_le hS); (try have hS0 : w.heap.size < w'.heap.size := by omega); (try have hS1 : w.heap.size + 1 < w'.heap.size := by omega); (try have hS2 : w.heap.size + 1 + 1 < w'.heap.size := by omega); (try have hS3 : w.heap.size + 1 + 1 + 1 < w'.heap.size := by omega))
    go_ret
    refine ⟨?_, hB⟩
    rw [HI.out]
    rfl
end Go.Proofs.YtlfbanoabipacaaDoor
