/-
  SeriesProduct: both ways, and the law. Printed by mkpro.py and nums.py.
-/
import Derived.Test.YtdahpjbpcdfhkaaPos
import Derived.Test.YtdahpjbpcdfhkaaFil
import Derived.Test.YtdahpjbpcdfhkaaDivS
namespace Go.Proofs.Ytdahpjbpcdfhkaa
open Go.RowKit
attribute [local simp, local go_sem] past_cell past_frozen past_tape
/-- A coefficient of a product, as far as it is summed. -/
def pdS (A B : List Int) (m : Nat) : Nat → Int
  | 0 => 0
  | i + 1 => pdS A B m i + A.getD i 0 * B.getD (m - i) 0
def pdF (A B : List Int) (m i : Nat) (j : Nat) : Int := if j < m then pdS A B j (j + 1) else if j = m then pdS A B m i else 0
def pdL (A B : List Int) : List Int := fnL (min A.length B.length) fun j => pdS A B j (j + 1)
def pdR (A B : List Int) : List Int × Bool := if (serB A && serB B) && (pdL A B).all numB then (pdL A B, true) else ([], false)
theorem pdL_len (A B : List Int) : (pdL A B).length = min A.length B.length := fnL_len _ _
theorem pdR_len (A B : List Int) : (pdR A B).1.length ≤ 1100000 := by
  unfold pdR
  split
  · rename_i h
    simp only [Bool.and_eq_true] at h
    have := ser_len h.1.1
    show (pdL A B).length ≤ _
    rw [pdL_len]
    omega
  · simp
theorem pdS_bd {A B : List Int} (hA : serB A = true) (hB : serB B = true) {m i : Nat} (ha : i ≤ A.length) (hb : m < B.length) : Bd (1000000000000 * (i : Int)) (pdS A B m i) := by
  induction i with
  | zero => exact ⟨by show _ ≤ (0 : Int); omega, by show (0 : Int) ≤ _; omega⟩
  | succ i ih =>
    obtain ⟨h1, h2⟩ := ih (by omega)
    obtain ⟨x, _, hx, hxb⟩ := ser_get hA rfl (show i < A.length by omega)
    obtain ⟨y, _, hy, hyb⟩ := ser_get hB rfl (show m - i < B.length by omega)
    obtain ⟨m1, m2⟩ := mul_bd hxb hyb (show (1000000 : Int) * 1000000 ≤ 1000000000000 by decide)
    unfold pdS
    rw [hx, hy]
    exact ⟨by omega, by omega⟩
set_option maxRecDepth 100000 in
set_option maxHeartbeats 4000000 in
theorem implProd_any (B1 B2 n1 n2 cap1 cap2 : Nat) (a1 a2 : Option Addr) (A B : List Int) (w : World) (sA : serB A = true) (sB : serB B = true) (hn1 : A.length = n1) (hn2 : B.length = n2) (h1 : Sees B1 1 c1 w a1 A) (h2 : Sees B2 1 c1 w a2 B) :
    Calls Try.prog 55 #[.slice a1 n1 cap1, .slice a2 n2 cap2] w fun en w' => ∃ v, en = .returned v ∧ Rw w.heap.size 3 1 c1 w' v (pdL A B) ∧ Below w.heap.size w w' := by
  obtain ⟨i, hi1, hiz, hisz, hiby⟩ := info_parts (P := Try.prog) (e := 3) (z := .int .i64 0) (size := 1) (bytes := 8) (by kernel_rfl)
  obtain ⟨l1, l2⟩ := ser_len sA
  obtain ⟨l3, l4⟩ := ser_len sB
  obtain ⟨N, hN⟩ : ∃ N, N = min A.length B.length := ⟨_, rfl⟩
  have HL : Hid (pdL A B = fnL N fun j => pdS A B j (j + 1)) := by show _ = _; rw [pdL, hN]
  rw [HL.out]
  rw [hn1, hn2] at hN
  rw [hn1] at l1 l2
  rw [hn2] at l3 l4
  obtain ⟨g1, rfl, _, hg1, hcell1, _⟩ := h1.resolve_left (by omega)
  obtain ⟨g2, rfl, _, hg2, hcell2, _⟩ := h2.resolve_left (by omega)
  have HC1 : Hid (∀ k x, A[k]? = some x → w.cell? ⟨g1, k, none⟩ = some (.int .i64 x)) := fun k x hx => by have := hcell1 k x hx 0 (by omega); simpa [c1] using this
  have HC2 : Hid (∀ k x, B[k]? = some x → w.cell? ⟨g2, k, none⟩ = some (.int .i64 x)) := fun k x hx => by have := hcell2 k x hx 0 (by omega); simpa [c1] using this
  have HS1 := Lib.hid sA
  have HS2 := Lib.hid sB
  have HN1 := Lib.hid hn1
  have HN2 := Lib.hid hn2
  have HNN := Lib.hid hN
  have N1 : N ≤ n1 := by omega
  have N2 : N ≤ n2 := by omega
  have N3 : 1 ≤ N := by omega
  have N4 : N ≤ 101 := by omega
  clear h1 h2 hcell1 hcell2 sA sB hn1 hn2 hN
  go_enter Try.func55, Try.ntmps55
  go_wp2_with (first | (at_make; refine wpList_make_full _ rfl _ _ _ rfl w.heap.size 3 i (.int .i64 0) 1 (by kernel_rfl) hi1 hiz hisz .i64 .i64 _ _ N rfl rfl (by have := HNN.out; first | omega | (split <;> omega)) (by have := HNN.out; first | omega | (split <;> omega)) (by rw [hiby]; omega) (by unfold maxLen; omega) (Nat.le_refl _) ?_; intro wm hown hgrow))
  all_goals
    have hF := Lib.hid (Fil.made hown)
    have hB := Lib.hid (Below.grown (Below.refl _ _) hgrow (Nat.le_refl _) (fun k hk => by cases hk) : Below w.heap.size w wm)
    clear hown hgrow
    go_wp2
    go_loopw [16] (fun c wr => ∃ m : Nat, c = .int .i64 (m : Int) ∧ m ≤ N ∧ Hid (Fil w.heap.size wr w.heap.size N (pdF A B m 0)) ∧ Hid (Below w.heap.size w wr)) (fun c _ => N - (intOf c).toNat)
    case atStart =>
      refine ⟨0, rfl, by omega, ?_, hB.out⟩
      show Fil _ _ _ _ _
      refine hF.out.congr fun j hj => ?_
      unfold pdF
      rw [if_neg (by omega)]
      split
      · subst_vars; rfl
      · rfl
    case round =>
      obtain ⟨m, rfl, hm, hf, hb⟩ := hrel
      have hbz := hb.out.size
      by_cases hmN : m < N
      · go_wp2
        go_loopw [7] (fun iv wr => ∃ i : Nat, iv = .int .i64 (i : Int) ∧ i ≤ m + 1 ∧ Hid (Fil w.heap.size wr w.heap.size N (pdF A B m i)) ∧ Hid (Below w.heap.size w wr)) (fun iv _ => m + 1 - (intOf iv).toNat)
        case atStart => exact ⟨0, rfl, by omega, hf.out, hb.out⟩
        case round =>
          obtain ⟨i, rfl, hi, hf2, hb2⟩ := hrel
          have hbz2 := hb2.out.size
          obtain ⟨wo, rfl⟩ : ∃ wo : World, wo = wr := ⟨_, rfl⟩
          by_cases him : i ≤ m
          · have hc := hf2.out.cell (j := m) hmN
            have hfr := hf2.out.frozen m
            have hglt := hf2.out.lt.2
            have hval : Hid (pdF A B m i m = pdS A B m i) := by show _ = _; unfold pdF; rw [if_neg (by omega), if_pos rfl]
            rw [hval.out] at hc
            obtain ⟨q, hq⟩ : ∃ q : Nat, q = m - i := ⟨_, rfl⟩
            have hqi : (m : Int) - (i : Int) = (q : Int) := by omega
            have hqn : q < n2 := by omega
            have hin : i < n1 := by omega
            obtain ⟨x, hx, hxd, x1, x2⟩ := ser_get HS1.out HN1.out hin
            obtain ⟨y, hy, hyd, y1, y2⟩ := ser_get HS2.out HN2.out hqn
            have gw1 : g1 < wo.heap.size := by omega
            have gw2 : g2 < wo.heap.size := by omega
            have hcx : wo.cell? ⟨g1, i, none⟩ = some (.int .i64 x) := by rw [bG hb2.out hg1]; exact HC1.out i x hx
            have hcy : wo.cell? ⟨g2, q, none⟩ = some (.int .i64 y) := by rw [bG hb2.out hg2]; exact HC2.out q y hy
            obtain ⟨s1, s2⟩ := pdS_bd HS1.out HS2.out (m := m) (i := i) (by have := HN1.out; omega) (by have := HN2.out; omega)
            obtain ⟨p1, p2⟩ := mul_bd (show Bd 1000000 x from ⟨x1, x2⟩) (show Bd 1000000 y from ⟨y1, y2⟩) (show (1000000 : Int) * 1000000 ≤ 1000000000000 by decide)
            have hnew : Hid (pdS A B m i + x * y = pdS A B m (i + 1)) := by show _ = _; rw [pdS, hxd, ← hq, hyd]
            obtain ⟨v, hv⟩ : ∃ v, v = pdS A B m i := ⟨_, rfl⟩
            rw [← hv] at hc s1 s2 hnew
            clear hv hq hx hy hxd hyd hval
            go_wp2_with fail
            refine wp_region_past_tail 17 (by kernel_rfl) (by kernel_rfl) ?_
            simp only [List.take_succ_cons, List.take_zero, List.drop_succ_cons, List.drop_zero]
            repeat (first | go_big_quiet_skip | (go_big_quiet_want; go_big_quiet_op; first | go_big_quiet_on | (apply Exists.intro; refine ⟨fun _ => ?_, ?_⟩; (focus (fail)); go_big_quiet_on)))
            refine wpQuiet_nil ?_
            intro w1 hw'
            have hB1 := past_below hw'
            clear hw'
            obtain ⟨hC1, hF1⟩ := bcell hB1
            have hS1 := hB1.size
            (try simp at hS1)
            (try have hS1_w0 : w.heap.size < w1.heap.size := by omega)
            (try have hS1_w1 : w.heap.size + 1 < w1.heap.size := by omega)
            (try have hS1_w2 : w.heap.size + 1 + 1 < w1.heap.size := by omega)
            (try have hS1_w3 : w.heap.size + 1 + 1 + 1 < w1.heap.size := by omega)
            (try have hS1_w4 : w.heap.size + 1 + 1 + 1 + 1 < w1.heap.size := by omega)
            have hfm := hf2.out.later hB1
            have hc1 := hfm.cell (j := m) hmN
            have hfr1 := hfm.frozen m
            have hb3 := Lib.hid (hb2.out.trans (hB1.mono hbz2))
            have HF := Lib.hid (hfm.set m (v + x * y))
            clear hB1 hC1 hF1 hfm hc hfr
            go_wp2
            go_roundw
            case rel =>
              go_light
              refine ⟨i + 1, by go_num, by omega, ?_, ?_⟩
              · show Fil _ _ _ _ _
                refine HF.out.congr fun j hj => ?_
                unfold pdF
                by_cases hjm : j = m
                · subst hjm
                  rw [if_pos rfl, if_neg (by omega), if_pos rfl, hnew.out]
                · rw [if_neg hjm, if_neg hjm, if_neg hjm]
              · show Below _ _ _
                exact hb3.out.setCell (Nat.le_refl _) _
            case measure => simp [intOf]; omega
          · have him' : i = m + 1 := by omega
            subst him'
            go_wp2
            go_roundw
            case rel =>
              go_light
              refine ⟨m + 1, by go_num, by omega, ?_, hb2.out⟩
              show Fil _ _ _ _ _
              refine hf2.out.congr fun j hj => ?_
              unfold pdF
              by_cases h1 : j < m
              · rw [if_pos h1, if_pos (by omega)]
              · rw [if_neg h1]
                by_cases h2 : j = m
                · subst h2
                  rw [if_pos rfl, if_pos (by omega)]
                · rw [if_neg h2, if_neg (by omega)]
                  split
                  · rfl
                  · rfl
            case measure => simp [intOf]; omega
      · have hmm : m = N := by omega
        subst hmm
        go_wp2
        go_ret
        refine ⟨_, rfl, ?_, hb.out⟩
        have := hf.out.congr (f' := fun j => pdS A B j (j + 1)) fun j hj => by unfold pdF; rw [if_pos hj]
        exact this
set_option maxRecDepth 100000 in
set_option maxHeartbeats 4000000 in
theorem specProd_any (B1 B2 n1 n2 cap1 cap2 : Nat) (a1 a2 : Option Addr) (A B : List Int) (w : World) (sA : serB A = true) (sB : serB B = true) (hn1 : A.length = n1) (hn2 : B.length = n2) (h1 : Sees B1 1 c1 w a1 A) (h2 : Sees B2 1 c1 w a2 B) :
    Calls Try.prog 54 #[.slice a1 n1 cap1, .slice a2 n2 cap2] w fun en w' => ∃ v, en = .returned v ∧ Rw w.heap.size 3 1 c1 w' v (pdL A B) ∧ Below w.heap.size w w' := by
  obtain ⟨i, hi1, hiz, hisz, hiby⟩ := info_parts (P := Try.prog) (e := 3) (z := .int .i64 0) (size := 1) (bytes := 8) (by kernel_rfl)
  obtain ⟨l1, l2⟩ := ser_len sA
  obtain ⟨l3, l4⟩ := ser_len sB
  obtain ⟨N, hN⟩ : ∃ N, N = min A.length B.length := ⟨_, rfl⟩
  have HL : Hid (pdL A B = fnL N fun j => pdS A B j (j + 1)) := by show _ = _; rw [pdL, hN]
  rw [HL.out]
  rw [hn1, hn2] at hN
  rw [hn1] at l1 l2
  rw [hn2] at l3 l4
  obtain ⟨g1, rfl, _, hg1, hcell1, _⟩ := h1.resolve_left (by omega)
  obtain ⟨g2, rfl, _, hg2, hcell2, _⟩ := h2.resolve_left (by omega)
  have HC1 : Hid (∀ k x, A[k]? = some x → w.cell? ⟨g1, k, none⟩ = some (.int .i64 x)) := fun k x hx => by have := hcell1 k x hx 0 (by omega); simpa [c1] using this
  have HC2 : Hid (∀ k x, B[k]? = some x → w.cell? ⟨g2, k, none⟩ = some (.int .i64 x)) := fun k x hx => by have := hcell2 k x hx 0 (by omega); simpa [c1] using this
  have HS1 := Lib.hid sA
  have HS2 := Lib.hid sB
  have HN1 := Lib.hid hn1
  have HN2 := Lib.hid hn2
  have HNN := Lib.hid hN
  have N1 : N ≤ n1 := by omega
  have N2 : N ≤ n2 := by omega
  have N3 : 1 ≤ N := by omega
  have N4 : N ≤ 101 := by omega
  clear h1 h2 hcell1 hcell2 sA sB hn1 hn2 hN
  go_enter Try.func54, Try.ntmps54
  go_wp2_with (first | (go_at_call 57; refine (l1Least_any _ _ _).mono ?_; rintro e w' ⟨rfl, rfl⟩) | (at_make; refine wpList_make_full _ rfl _ _ _ rfl w.heap.size 3 i (.int .i64 0) 1 (by kernel_rfl) hi1 hiz hisz .i64 .i64 _ _ N rfl rfl (by have := HNN.out; first | omega | (split <;> omega)) (by have := HNN.out; first | omega | (split <;> omega)) (by rw [hiby]; omega) (by unfold maxLen; omega) (Nat.le_refl _) ?_; intro wm hown hgrow))
  all_goals
    have hF := Lib.hid (Fil.made hown)
    have hB := Lib.hid (Below.grown (Below.refl _ _) hgrow (Nat.le_refl _) (fun k hk => by cases hk) : Below w.heap.size w wm)
    clear hown hgrow
    go_wp2
    go_loopw [16] (fun c wr => ∃ m : Nat, c = .int .i64 (m : Int) ∧ m ≤ N ∧ Hid (Fil w.heap.size wr w.heap.size N (pdF A B m 0)) ∧ Hid (Below w.heap.size w wr)) (fun c _ => N - (intOf c).toNat)
    case atStart =>
      refine ⟨0, rfl, by omega, ?_, hB.out⟩
      show Fil _ _ _ _ _
      refine hF.out.congr fun j hj => ?_
      unfold pdF
      rw [if_neg (by omega)]
      split
      · subst_vars; rfl
      · rfl
    case round =>
      obtain ⟨m, rfl, hm, hf, hb⟩ := hrel
      have hbz := hb.out.size
      by_cases hmN : m < N
      · go_wp2
        go_loopw [7] (fun iv wr => ∃ i : Nat, iv = .int .i64 (i : Int) ∧ i ≤ m + 1 ∧ Hid (Fil w.heap.size wr w.heap.size N (pdF A B m i)) ∧ Hid (Below w.heap.size w wr)) (fun iv _ => m + 1 - (intOf iv).toNat)
        case atStart => exact ⟨0, rfl, by omega, hf.out, hb.out⟩
        case round =>
          obtain ⟨i, rfl, hi, hf2, hb2⟩ := hrel
          have hbz2 := hb2.out.size
          obtain ⟨wo, rfl⟩ : ∃ wo : World, wo = wr := ⟨_, rfl⟩
          by_cases him : i ≤ m
          · have hc := hf2.out.cell (j := m) hmN
            have hfr := hf2.out.frozen m
            have hglt := hf2.out.lt.2
            have hval : Hid (pdF A B m i m = pdS A B m i) := by show _ = _; unfold pdF; rw [if_neg (by omega), if_pos rfl]
            rw [hval.out] at hc
            obtain ⟨q, hq⟩ : ∃ q : Nat, q = m - i := ⟨_, rfl⟩
            have hqi : (m : Int) - (i : Int) = (q : Int) := by omega
            have hqn : q < n2 := by omega
            have hin : i < n1 := by omega
            obtain ⟨x, hx, hxd, x1, x2⟩ := ser_get HS1.out HN1.out hin
            obtain ⟨y, hy, hyd, y1, y2⟩ := ser_get HS2.out HN2.out hqn
            have gw1 : g1 < wo.heap.size := by omega
            have gw2 : g2 < wo.heap.size := by omega
            have hcx : wo.cell? ⟨g1, i, none⟩ = some (.int .i64 x) := by rw [bG hb2.out hg1]; exact HC1.out i x hx
            have hcy : wo.cell? ⟨g2, q, none⟩ = some (.int .i64 y) := by rw [bG hb2.out hg2]; exact HC2.out q y hy
            obtain ⟨s1, s2⟩ := pdS_bd HS1.out HS2.out (m := m) (i := i) (by have := HN1.out; omega) (by have := HN2.out; omega)
            obtain ⟨p1, p2⟩ := mul_bd (show Bd 1000000 x from ⟨x1, x2⟩) (show Bd 1000000 y from ⟨y1, y2⟩) (show (1000000 : Int) * 1000000 ≤ 1000000000000 by decide)
            have hnew : Hid (pdS A B m i + x * y = pdS A B m (i + 1)) := by show _ = _; rw [pdS, hxd, ← hq, hyd]
            obtain ⟨v, hv⟩ : ∃ v, v = pdS A B m i := ⟨_, rfl⟩
            rw [← hv] at hc s1 s2 hnew
            clear hv hq hx hy hxd hyd hval
            go_wp2_with fail
            refine wp_region_past_tail 17 (by kernel_rfl) (by kernel_rfl) ?_
            simp only [List.take_succ_cons, List.take_zero, List.drop_succ_cons, List.drop_zero]
            repeat (first | go_big_quiet_skip | (go_big_quiet_want; go_big_quiet_op; first | go_big_quiet_on | (apply Exists.intro; refine ⟨fun _ => ?_, ?_⟩; (focus (fail)); go_big_quiet_on)))
            refine wpQuiet_nil ?_
            intro w1 hw'
            have hB1 := past_below hw'
            clear hw'
            obtain ⟨hC1, hF1⟩ := bcell hB1
            have hS1 := hB1.size
            (try simp at hS1)
            (try have hS1_w0 : w.heap.size < w1.heap.size := by omega)
            (try have hS1_w1 : w.heap.size + 1 < w1.heap.size := by omega)
            (try have hS1_w2 : w.heap.size + 1 + 1 < w1.heap.size := by omega)
            (try have hS1_w3 : w.heap.size + 1 + 1 + 1 < w1.heap.size := by omega)
            (try have hS1_w4 : w.heap.size + 1 + 1 + 1 + 1 < w1.heap.size := by omega)
            have hfm := hf2.out.later hB1
            have hc1 := hfm.cell (j := m) hmN
            have hfr1 := hfm.frozen m
            have hb3 := Lib.hid (hb2.out.trans (hB1.mono hbz2))
            have HF := Lib.hid (hfm.set m (v + x * y))
            clear hB1 hC1 hF1 hfm hc hfr
            go_wp2
            go_roundw
            case rel =>
              go_light
              refine ⟨i + 1, by go_num, by omega, ?_, ?_⟩
              · show Fil _ _ _ _ _
                refine HF.out.congr fun j hj => ?_
                unfold pdF
                by_cases hjm : j = m
                · subst hjm
                  rw [if_pos rfl, if_neg (by omega), if_pos rfl, hnew.out]
                · rw [if_neg hjm, if_neg hjm, if_neg hjm]
              · show Below _ _ _
                exact hb3.out.setCell (Nat.le_refl _) _
            case measure => simp [intOf]; omega
          · have him' : i = m + 1 := by omega
            subst him'
            go_wp2
            go_roundw
            case rel =>
              go_light
              refine ⟨m + 1, by go_num, by omega, ?_, hb2.out⟩
              show Fil _ _ _ _ _
              refine hf2.out.congr fun j hj => ?_
              unfold pdF
              by_cases h1 : j < m
              · rw [if_pos h1, if_pos (by omega)]
              · rw [if_neg h1]
                by_cases h2 : j = m
                · subst h2
                  rw [if_pos rfl, if_pos (by omega)]
                · rw [if_neg h2, if_neg (by omega)]
                  split
                  · rfl
                  · rfl
            case measure => simp [intOf]; omega
      · have hmm : m = N := by omega
        subst hmm
        go_wp2
        go_ret
        refine ⟨_, rfl, ?_, hb.out⟩
        have := hf.out.congr (f' := fun j => pdS A B j (j + 1)) fun j hj => by unfold pdF; rw [if_pos hj]
        exact this
set_option maxRecDepth 100000 in
set_option maxHeartbeats 4000000 in
theorem implSP_any (B1 B2 n1 n2 cap1 cap2 : Nat) (a1 a2 : Option Addr) (A B : List Int) (w : World) (hn1 : A.length = n1) (hn2 : B.length = n2) (h1 : Sees B1 1 c1 w a1 A) (h2 : Sees B2 1 c1 w a2 B) (hl1 : n1 ≤ 1100000) (hl2 : n2 ≤ 1100000) :
    Calls Try.prog 28 #[.slice a1 n1 cap1, .slice a2 n2 cap2] w fun en w' => ∃ v, en = .returned (.tuple #[v, .bool (pdR A B).2]) ∧ Rw w.heap.size 3 1 c1 w' v (pdR A B).1 ∧ Below w.heap.size w w' := by
  have hA : Hid (Calls Try.prog 51 #[.slice a1 n1 cap1] w fun en w' => en = .returned (.bool (serB A)) ∧ w = w') := isSeries_any B1 n1 cap1 a1 A w hn1 h1 hl1
  have hB : Hid (Calls Try.prog 51 #[.slice a2 n2 cap2] w fun en w' => en = .returned (.bool (serB B)) ∧ w = w') := isSeries_any B2 n2 cap2 a2 B w hn2 h2 hl2
  cases cA : serB A with
  | false =>
    have hR : pdR A B = ([], false) := by rw [pdR, cA]; rfl
    rw [hR]
    rw [cA] at hA
    clear hB hR h1 h2 hn1 hn2 cA
    go_enter Try.func28, Try.ntmps28
    go_wp2_with fail
    refine hA.out.mono ?_
    rintro e0 w0 ⟨rfl, rfl⟩
    go_wp2
    go_ret2
    exact ⟨_, rfl, Rw.empty (Nat.le_refl _), (Below.refl _ _).alloc (Nat.le_refl _) _⟩
  | true =>
    rw [cA] at hA
    cases cB : serB B with
    | false =>
      have hR : pdR A B = ([], false) := by rw [pdR, cA, cB]; rfl
      rw [hR]
      rw [cB] at hB
      clear hR h1 h2 hn1 hn2 cA cB
      go_enter Try.func28, Try.ntmps28
      go_wp2_with fail
      refine hA.out.mono ?_
      rintro e0 w0 ⟨rfl, rfl⟩
      go_wp2_with fail
      refine hB.out.mono ?_
      rintro e1 w1 ⟨rfl, rfl⟩
      go_wp2
      go_ret2
      exact ⟨_, rfl, Rw.empty (Nat.le_refl _), (Below.refl _ _).alloc (Nat.le_refl _) _⟩
    | true =>
      rw [cB] at hB
      have hR : pdR A B = (if (pdL A B).all numB then pdL A B else [], (pdL A B).all numB) := by
        rw [pdR, cA, cB]
        cases (pdL A B).all numB <;> rfl
      rw [hR]
      have hP := Lib.hid (implProd_any B1 B2 n1 n2 cap1 cap2 a1 a2 A B w cA cB hn1 hn2 h1 h2)
      have hL1 := ser_len cA
      have hL2 := ser_len cB
      have hLL := pdL_len A B
      generalize pdL A B = L at *
      obtain ⟨R, hRz⟩ : ∃ R, R = (if L.all numB then L else []) := ⟨_, rfl⟩
      obtain ⟨r, hrz⟩ : ∃ r, r = L.all numB := ⟨_, rfl⟩
      show Calls _ _ _ _ fun en w' => ∃ v, en = .returned (.tuple #[v, .bool (L.all numB)]) ∧ Rw w.heap.size 3 1 c1 w' v (if L.all numB then L else []) ∧ Below w.heap.size w w'
      rw [← hRz, ← hrz]
      have HRZ := Lib.hid hRz
      have HrZ := Lib.hid hrz
      clear hR h1 h2 hn1 hn2 cA cB hRz hrz
      go_enter Try.func28, Try.ntmps28
      go_wp2_with fail
      refine hA.out.mono ?_
      rintro e0 w0 ⟨rfl, rfl⟩
      go_wp2_with fail
      refine hB.out.mono ?_
      rintro e1 w1 ⟨rfl, rfl⟩
      go_wp2_with fail
      refine hP.out.mono ?_
      rintro e2 w2 ⟨v2, rfl, hr2, hB2⟩
      have hz2 := hB2.size
      have HR2 := Lib.hid hr2
      have HB2 := Lib.hid hB2
      clear hr2 hB2
      go_wp2_with fail
      have key := checked_any _ _ _ _ HR2.out hz2 (by omega)
      rw [← HRZ.out, ← HrZ.out] at key
      refine key.mono ?_
      rintro e3 w3 ⟨v3, rfl, hr3, hB3⟩
      have HR3 := Lib.hid hr3
      have HB3 := Lib.hid (HB2.out.trans (hB3.mono hz2))
      clear hr3 hB3 key
      go_wp2
      go_ret2
      exact ⟨_, rfl, HR3.out, HB3.out⟩
set_option maxRecDepth 100000 in
set_option maxHeartbeats 4000000 in
theorem specSP_any (B1 B2 n1 n2 cap1 cap2 : Nat) (a1 a2 : Option Addr) (A B : List Int) (w : World) (hn1 : A.length = n1) (hn2 : B.length = n2) (h1 : Sees B1 1 c1 w a1 A) (h2 : Sees B2 1 c1 w a2 B) (hl1 : n1 ≤ 1100000) (hl2 : n2 ≤ 1100000) :
    Calls Try.prog 27 #[.slice a1 n1 cap1, .slice a2 n2 cap2] w fun en w' => ∃ v, en = .returned (.tuple #[v, .bool (pdR A B).2]) ∧ Rw w.heap.size 3 1 c1 w' v (pdR A B).1 ∧ Below w.heap.size w w' := by
  have hA : Hid (Calls Try.prog 48 #[.slice a1 n1 cap1] w fun en w' => en = .returned (.bool (serB A)) ∧ w = w') := thGood_any B1 n1 cap1 a1 A w hn1 h1 hl1
  have hB : Hid (Calls Try.prog 48 #[.slice a2 n2 cap2] w fun en w' => en = .returned (.bool (serB B)) ∧ w = w') := thGood_any B2 n2 cap2 a2 B w hn2 h2 hl2
  cases cA : serB A with
  | false =>
    have hR : pdR A B = ([], false) := by rw [pdR, cA]; rfl
    rw [hR]
    rw [cA] at hA
    clear hB hR h1 h2 hn1 hn2 cA
    go_enter Try.func27, Try.ntmps27
    go_wp2_with fail
    refine hA.out.mono ?_
    rintro e0 w0 ⟨rfl, rfl⟩
    go_wp2
    go_ret2
    exact ⟨_, rfl, Rw.nil _ _ _ _ _, Below.refl _ _⟩
  | true =>
    rw [cA] at hA
    cases cB : serB B with
    | false =>
      have hR : pdR A B = ([], false) := by rw [pdR, cA, cB]; rfl
      rw [hR]
      rw [cB] at hB
      clear hR h1 h2 hn1 hn2 cA cB
      go_enter Try.func27, Try.ntmps27
      go_wp2_with fail
      refine hA.out.mono ?_
      rintro e0 w0 ⟨rfl, rfl⟩
      go_wp2_with fail
      refine hB.out.mono ?_
      rintro e1 w1 ⟨rfl, rfl⟩
      go_wp2
      go_ret2
      exact ⟨_, rfl, Rw.nil _ _ _ _ _, Below.refl _ _⟩
    | true =>
      rw [cB] at hB
      have hR : pdR A B = (if (pdL A B).all numB then pdL A B else [], (pdL A B).all numB) := by
        rw [pdR, cA, cB]
        cases (pdL A B).all numB <;> rfl
      rw [hR]
      have hP := Lib.hid (specProd_any B1 B2 n1 n2 cap1 cap2 a1 a2 A B w cA cB hn1 hn2 h1 h2)
      have hL1 := ser_len cA
      have hL2 := ser_len cB
      have hLL := pdL_len A B
      generalize pdL A B = L at *
      obtain ⟨R, hRz⟩ : ∃ R, R = (if L.all numB then L else []) := ⟨_, rfl⟩
      obtain ⟨r, hrz⟩ : ∃ r, r = L.all numB := ⟨_, rfl⟩
      show Calls _ _ _ _ fun en w' => ∃ v, en = .returned (.tuple #[v, .bool (L.all numB)]) ∧ Rw w.heap.size 3 1 c1 w' v (if L.all numB then L else []) ∧ Below w.heap.size w w'
      rw [← hRz, ← hrz]
      have HRZ := Lib.hid hRz
      have HrZ := Lib.hid hrz
      clear hR h1 h2 hn1 hn2 cA cB hRz hrz
      go_enter Try.func27, Try.ntmps27
      go_wp2_with fail
      refine hA.out.mono ?_
      rintro e0 w0 ⟨rfl, rfl⟩
      go_wp2_with fail
      refine hB.out.mono ?_
      rintro e1 w1 ⟨rfl, rfl⟩
      go_wp2_with fail
      refine hP.out.mono ?_
      rintro e2 w2 ⟨v2, rfl, hr2, hB2⟩
      have hz2 := hB2.size
      have HR2 := Lib.hid hr2
      have HB2 := Lib.hid hB2
      clear hr2 hB2
      go_wp2_with fail
      have key := thIf_any _ _ _ _ HR2.out (by omega) (by omega)
      rw [← HRZ.out, ← HrZ.out] at key
      refine key.mono ?_
      rintro e3 w3 ⟨v3, rfl, hr3, hB3⟩
      have HR3 := Lib.hid hr3
      have HB3 := Lib.hid (HB2.out.trans (hB3.mono hz2))
      clear hr3 hB3 key
      go_wp2
      go_ret2
      exact ⟨_, rfl, HR3.out, HB3.out⟩
set_option maxRecDepth 100000 in
set_option maxHeartbeats 8000000 in
theorem law_seriesProduct (a0 : Option Addr) (len0 cap0 : Nat) (zs0 : List Int) (a1 : Option Addr) (len1 cap1 : Nat) (zs1 : List Int) (w : World) (h0 : IArg w a0 len0 zs0) (hlc0 : len0 ≤ cap0) (hl0 : len0 ≤ 9223372036854775807) (h1 : IArg w a1 len1 zs1) (hlc1 : len1 ≤ cap1) (hl1 : len1 ≤ 9223372036854775807)  :
    Calls Try.prog 9 #[.slice a0 len0 cap0, .slice a1 len1 cap1] w fun en w' => en = .returned (.bool true) ∧ Below w.heap.size w w' := by
  have H0 := Lib.hid h0
  clear h0
  have H1 := Lib.hid h1
  clear h1
  by_cases big0 : 1048576 < (len0 : Int)
  · go_enter Try.func9, Try.ntmps9
    go_wp2
    go_ret
    exact ⟨rfl, Below.refl _ _⟩
  by_cases big1 : 1048576 < (len1 : Int)
  · go_enter Try.func9, Try.ntmps9
    go_wp2
    go_ret
    exact ⟨rfl, Below.refl _ _⟩
  have sm0 : len0 ≤ 1048576 := by omega
  have HZ0 : Hid (zs0.length = len0) := H0.out.1
  clear big0
  have sm1 : len1 ≤ 1048576 := by omega
  have HZ1 : Hid (zs1.length = len1) := H1.out.1
  clear big1
  obtain ⟨R, hR⟩ : ∃ R, R = pdR zs0 zs1 := ⟨_, rfl⟩
  have hlen : R.1.length ≤ 1100000 := by rw [hR]; exact pdR_len zs0 zs1
  have HR := Lib.hid hR
  clear hR
  obtain ⟨n', hn'⟩ : ∃ n', R.1.length = n' := ⟨_, rfl⟩
  rw [hn'] at hlen
  have HN := Lib.hid hn'
  clear hn'
  go_enter Try.func9, Try.ntmps9
  have BW0 := Lib.hid (Below.refl w.heap.size w)
  go_wp2_with fail
  refine (toIntS_any a0 len0 cap0 zs0 _ (H0.out.later BW0.out) sm0 hlc0).mono ?_
  rintro e1 v1 ⟨x1, rfl, hr, hB⟩
  have hz1 := hB.size
  have D1 := Lib.hid hB
  have BW1 := Lib.hid (BW0.out.trans (hB.mono (by omega)))
  obtain ⟨pQ0, cQ0, hv, hk, _, hs⟩ := hr.sees c1_len
  rw [HZ0.out] at hv hk
  subst hv
  clear hk hs
  have Q0_1 := Lib.hid hr
  clear hr
  clear hB
  go_wp2_with fail
  refine (toIntS_any a1 len1 cap1 zs1 _ (H1.out.later BW1.out) sm1 hlc1).mono ?_
  rintro e2 v2 ⟨x2, rfl, hr, hB⟩
  have hz2 := hB.size
  have D2 := Lib.hid hB
  have BW2 := Lib.hid (BW1.out.trans (hB.mono (by omega)))
  have Q0_2 := Lib.hid (Q0_1.out.later hB)
  clear Q0_1
  obtain ⟨pQ1, cQ1, hv, hk, _, hs⟩ := hr.sees c1_len
  rw [HZ1.out] at hv hk
  subst hv
  clear hk hs
  have Q1_2 := Lib.hid hr
  clear hr
  clear hB
  have hq := specSP_any _ _ len0 len1 cQ0 cQ1 _ _ zs0 zs1 v2 HZ0.out HZ1.out (Q0_2.out.seen c1_len).1 (Q1_2.out.seen c1_len).1 (by omega) (by omega)
  rw [← HR.out] at hq
  go_wp2_with fail
  refine hq.mono ?_
  clear hq
  rintro e3 v3 ⟨x3, rfl, hr, hB⟩
  have hz3 := hB.size
  have BW3 := Lib.hid (BW2.out.trans (hB.mono (by omega)))
  have Q0_3 := Lib.hid (Q0_2.out.later hB)
  clear Q0_2
  have Q1_3 := Lib.hid (Q1_2.out.later hB)
  clear Q1_2
  obtain ⟨pG0, cG0, hv, hk, _, hs⟩ := hr.sees c1_len
  rw [HN.out] at hv hk
  subst hv
  clear hk hs
  have G0_3 := Lib.hid hr
  clear hr hB
  have LTG0 : Hid (∀ g, (Value.slice pG0 n' cG0).ownBlock = some g → g < v3.heap.size) := fun g hg => (G0_3.out.lt g hg).2
  clear Q0_3
  clear Q1_3
  go_wp2_with fail
  refine (toIntS_any a0 len0 cap0 zs0 _ (H0.out.later BW3.out) sm0 hlc0).mono ?_
  rintro e4 v4 ⟨x4, rfl, hr, hB⟩
  have hz4 := hB.size
  have D4 := Lib.hid hB
  have BW4 := Lib.hid (BW3.out.trans (hB.mono (by omega)))
  have G0_4 := Lib.hid (G0_3.out.later hB)
  clear G0_3
  obtain ⟨pX0, cX0, hv, hk, _, hs⟩ := hr.sees c1_len
  rw [HZ0.out] at hv hk
  subst hv
  clear hk hs
  have X0_4 := Lib.hid hr
  clear hr
  clear hB
  have LTX0 : Hid (∀ g, (Value.slice pX0 len0 cX0).ownBlock = some g → g < v4.heap.size) := fun g hg => (X0_4.out.lt g hg).2
  go_wp2_with fail
  refine (toIntS_any a1 len1 cap1 zs1 _ (H1.out.later BW4.out) sm1 hlc1).mono ?_
  rintro e5 v5 ⟨x5, rfl, hr, hB⟩
  have hz5 := hB.size
  have D5 := Lib.hid hB
  have BW5 := Lib.hid (BW4.out.trans (hB.mono (by omega)))
  have G0_5 := Lib.hid (G0_4.out.later hB)
  clear G0_4
  have X0_5 := Lib.hid (X0_4.out.later hB)
  clear X0_4
  obtain ⟨pX1, cX1, hv, hk, _, hs⟩ := hr.sees c1_len
  rw [HZ1.out] at hv hk
  subst hv
  clear hk hs
  have X1_5 := Lib.hid hr
  clear hr
  clear hB
  have LTX1 : Hid (∀ g, (Value.slice pX1 len1 cX1).ownBlock = some g → g < v5.heap.size) := fun g hg => (X1_5.out.lt g hg).2
  have hq := implSP_any _ _ len0 len1 cX0 cX1 _ _ zs0 zs1 v5 HZ0.out HZ1.out (X0_5.out.seen c1_len).1 (X1_5.out.seen c1_len).1 (by omega) (by omega)
  rw [← HR.out] at hq
  go_wp2_with fail
  refine hq.mono ?_
  clear hq
  rintro e6 v6 ⟨x6, rfl, hr, hB⟩
  have hz6 := hB.size
  have BW6 := Lib.hid (BW5.out.trans (hB.mono (by omega)))
  have G0_6 := Lib.hid (G0_5.out.later hB)
  clear G0_5
  have X0_6 := Lib.hid (X0_5.out.later hB)
  clear X0_5
  have X1_6 := Lib.hid (X1_5.out.later hB)
  clear X1_5
  obtain ⟨pG1, cG1, hv, hk, _, hs⟩ := hr.sees c1_len
  rw [HN.out] at hv hk
  subst hv
  clear hk hs
  have G1_6 := Lib.hid hr
  clear hr hB
  have LTG1 : Hid (∀ g, (Value.slice pG1 n' cG1).ownBlock = some g → g < v6.heap.size) := fun g hg => (G1_6.out.lt g hg).2
  go_wp2_with fail
  refine (eqIntS_same _ _ _ _ _ _ _ _ _ HN.out (G1_6.out.seen c1_len).1 (G0_6.out.seen c1_len).1 hlen).mono ?_
  rintro e7 v7 ⟨rfl, hB⟩
  have hz7 := hB.size
  have D7 := Lib.hid hB
  have BW7 := Lib.hid (BW6.out.trans (hB.mono (by omega)))
  have G0_7 := Lib.hid (G0_6.out.later hB)
  clear G0_6
  have X0_7 := Lib.hid (X0_6.out.later hB)
  clear X0_6
  have X1_7 := Lib.hid (X1_6.out.later hB)
  clear X1_6
  have G1_7 := Lib.hid (G1_6.out.later hB)
  clear G1_6
  clear hB
  go_wp2_with fail
  refine (toIntS_any a0 len0 cap0 zs0 _ (H0.out.later BW7.out) sm0 hlc0).mono ?_
  rintro e8 v8 ⟨x8, rfl, hr, hB⟩
  have hz8 := hB.size
  have D8 := Lib.hid hB
  have BW8 := Lib.hid (BW7.out.trans (hB.mono (by omega)))
  have G0_8 := Lib.hid (G0_7.out.later hB)
  clear G0_7
  have X0_8 := Lib.hid (X0_7.out.later hB)
  clear X0_7
  have X1_8 := Lib.hid (X1_7.out.later hB)
  clear X1_7
  have G1_8 := Lib.hid (G1_7.out.later hB)
  clear G1_7
  obtain ⟨pQ0, cQ0, hv, hk, _, hs⟩ := hr.sees c1_len
  rw [HZ0.out] at hv hk
  subst hv
  clear hk hs
  have Q0_8 := Lib.hid hr
  clear hr
  clear hB
  go_wp2_with fail
  refine (eqIntS_same _ _ _ _ _ _ _ _ _ HZ0.out (X0_8.out.seen c1_len).1 (Q0_8.out.seen c1_len).1 (by omega)).mono ?_
  rintro e9 v9 ⟨rfl, hB⟩
  have hz9 := hB.size
  have D9 := Lib.hid hB
  have BW9 := Lib.hid (BW8.out.trans (hB.mono (by omega)))
  have G0_9 := Lib.hid (G0_8.out.later hB)
  clear G0_8
  have X0_9 := Lib.hid (X0_8.out.later hB)
  clear X0_8
  have X1_9 := Lib.hid (X1_8.out.later hB)
  clear X1_8
  have G1_9 := Lib.hid (G1_8.out.later hB)
  clear G1_8
  have Q0_9 := Lib.hid (Q0_8.out.later hB)
  clear Q0_8
  clear hB
  clear Q0_9
  go_wp2_with fail
  refine (toIntS_any a1 len1 cap1 zs1 _ (H1.out.later BW9.out) sm1 hlc1).mono ?_
  rintro e10 v10 ⟨x10, rfl, hr, hB⟩
  have hz10 := hB.size
  have D10 := Lib.hid hB
  have BW10 := Lib.hid (BW9.out.trans (hB.mono (by omega)))
  have G0_10 := Lib.hid (G0_9.out.later hB)
  clear G0_9
  have X0_10 := Lib.hid (X0_9.out.later hB)
  clear X0_9
  have X1_10 := Lib.hid (X1_9.out.later hB)
  clear X1_9
  have G1_10 := Lib.hid (G1_9.out.later hB)
  clear G1_9
  obtain ⟨pQ1, cQ1, hv, hk, _, hs⟩ := hr.sees c1_len
  rw [HZ1.out] at hv hk
  subst hv
  clear hk hs
  have Q1_10 := Lib.hid hr
  clear hr
  clear hB
  go_wp2_with fail
  refine (eqIntS_same _ _ _ _ _ _ _ _ _ HZ1.out (X1_10.out.seen c1_len).1 (Q1_10.out.seen c1_len).1 (by omega)).mono ?_
  rintro e11 v11 ⟨rfl, hB⟩
  have hz11 := hB.size
  have D11 := Lib.hid hB
  have BW11 := Lib.hid (BW10.out.trans (hB.mono (by omega)))
  have G0_11 := Lib.hid (G0_10.out.later hB)
  clear G0_10
  have X0_11 := Lib.hid (X0_10.out.later hB)
  clear X0_10
  have X1_11 := Lib.hid (X1_10.out.later hB)
  clear X1_10
  have G1_11 := Lib.hid (G1_10.out.later hB)
  clear G1_10
  have Q1_11 := Lib.hid (Q1_10.out.later hB)
  clear Q1_10
  clear hB
  clear Q1_11
  go_wp2_with fail
  have HB11 : ∀ g, (Value.slice pX0 len0 cX0).ownBlock = some g → w.heap.size ≤ g := fun g hg => by have := (X0_11.out.lt g hg).1; omega
  refine (markIntS_any _ len0 _ _ (1) _ HZ0.out X0_11.out (by omega) (by omega) (by omega)).mono ?_
  rintro e12 v12 ⟨rfl, hM, hg⟩
  have hz12 := hg.size
  have hap : (Value.slice pG0 n' cG0).ownBlock = none ∨ (Value.slice pG0 n' cG0).ownBlock ≠ (Value.slice pX0 len0 cX0).ownBlock := by
    cases h0 : (Value.slice pG0 n' cG0).ownBlock with
    | none => exact .inl rfl
    | some g => right; intro h1; have q1 := LTG0.out g h0; have q2 := (X0_11.out.lt g h1.symm).1; omega
  have G0_12 := Lib.hid (G0_11.out.apart hg hap)
  clear hap
  have hap : (Value.slice pX1 len1 cX1).ownBlock = none ∨ (Value.slice pX1 len1 cX1).ownBlock ≠ (Value.slice pX0 len0 cX0).ownBlock := by
    cases h0 : (Value.slice pX1 len1 cX1).ownBlock with
    | none => exact .inl rfl
    | some g => right; intro h1; have q1 := LTX0.out g h1.symm; have q2 := (X1_11.out.lt g h0).1; omega
  have X1_12 := Lib.hid (X1_11.out.apart hg hap)
  clear hap
  have hap : (Value.slice pG1 n' cG1).ownBlock = none ∨ (Value.slice pG1 n' cG1).ownBlock ≠ (Value.slice pX0 len0 cX0).ownBlock := by
    cases h0 : (Value.slice pG1 n' cG1).ownBlock with
    | none => exact .inl rfl
    | some g => right; intro h1; have q1 := LTX0.out g h1.symm; have q2 := (G1_11.out.lt g h0).1; omega
  have G1_12 := Lib.hid (G1_11.out.apart hg hap)
  clear hap
  clear G0_11
  clear X0_11
  clear X1_11
  clear G1_11
  have BW12 := Lib.hid (below_of_grown BW11.out hg (by omega) HB11)
  clear HB11
  clear hM hg
  go_wp2_with fail
  have HB12 : ∀ g, (Value.slice pX1 len1 cX1).ownBlock = some g → w.heap.size ≤ g := fun g hg => by have := (X1_12.out.lt g hg).1; omega
  refine (markIntS_any _ len1 _ _ (1 + (len0 : Int)) _ HZ1.out X1_12.out (by omega) (by omega) (by omega)).mono ?_
  rintro e13 v13 ⟨rfl, hM, hg⟩
  have hz13 := hg.size
  have hap : (Value.slice pG0 n' cG0).ownBlock = none ∨ (Value.slice pG0 n' cG0).ownBlock ≠ (Value.slice pX1 len1 cX1).ownBlock := by
    cases h0 : (Value.slice pG0 n' cG0).ownBlock with
    | none => exact .inl rfl
    | some g => right; intro h1; have q1 := LTG0.out g h0; have q2 := (X1_12.out.lt g h1.symm).1; omega
  have G0_13 := Lib.hid (G0_12.out.apart hg hap)
  clear hap
  have hap : (Value.slice pG1 n' cG1).ownBlock = none ∨ (Value.slice pG1 n' cG1).ownBlock ≠ (Value.slice pX1 len1 cX1).ownBlock := by
    cases h0 : (Value.slice pG1 n' cG1).ownBlock with
    | none => exact .inl rfl
    | some g => right; intro h1; have q1 := LTX1.out g h1.symm; have q2 := (G1_12.out.lt g h0).1; omega
  have G1_13 := Lib.hid (G1_12.out.apart hg hap)
  clear hap
  clear G0_12
  clear X1_12
  clear G1_12
  have BW13 := Lib.hid (below_of_grown BW12.out hg (by omega) HB12)
  clear HB12
  clear hM hg
  go_wp2_with fail
  refine (eqIntS_same _ _ _ _ _ _ _ _ _ HN.out (G1_13.out.seen c1_len).1 (G0_13.out.seen c1_len).1 hlen).mono ?_
  rintro e14 v14 ⟨rfl, hB⟩
  have hz14 := hB.size
  have D14 := Lib.hid hB
  have BW14 := Lib.hid (BW13.out.trans (hB.mono (by omega)))
  have G0_14 := Lib.hid (G0_13.out.later hB)
  clear G0_13
  have G1_14 := Lib.hid (G1_13.out.later hB)
  clear G1_13
  clear hB
  go_wp2_with fail
  have HB14 : ∀ g, (Value.slice pG1 n' cG1).ownBlock = some g → w.heap.size ≤ g := fun g hg => by have := (G1_14.out.lt g hg).1; omega
  refine (markIntS_any _ n' _ _ (1) _ HN.out G1_14.out hlen (by omega) (by omega)).mono ?_
  rintro e15 v15 ⟨rfl, hM, hg⟩
  have hz15 := hg.size
  have hap : (Value.slice pG0 n' cG0).ownBlock = none ∨ (Value.slice pG0 n' cG0).ownBlock ≠ (Value.slice pG1 n' cG1).ownBlock := by
    cases h0 : (Value.slice pG0 n' cG0).ownBlock with
    | none => exact .inl rfl
    | some g => right; intro h1; have q1 := LTG0.out g h0; have q2 := (G1_14.out.lt g h1.symm).1; omega
  have G0_15 := Lib.hid (G0_14.out.apart hg hap)
  clear hap
  clear G0_14
  clear G1_14
  have BW15 := Lib.hid (below_of_grown BW14.out hg (by omega) HB14)
  clear HB14
  obtain ⟨am, km, hem, hms⟩ := hM.sees
  simp only [Value.slice.injEq] at hem
  obtain ⟨rfl, -, rfl⟩ := hem
  have M_15 := Lib.hid hms
  clear hms
  clear hM hg
  go_wp2_with fail
  refine (heldIntS_any n' _ _ 1 _ M_15.out hlen (by omega) (by omega)).mono ?_
  rintro e16 v16 ⟨rfl, hB⟩
  have hz16 := hB.size
  have D16 := Lib.hid hB
  have BW16 := Lib.hid (BW15.out.trans (hB.mono (by omega)))
  have G0_16 := Lib.hid (G0_15.out.later hB)
  clear G0_15
  have M_16 := Lib.hid (M_15.out.below hB)
  clear M_15
  clear hB
  go_wp2_with fail
  refine (toIntS_any a0 len0 cap0 zs0 _ (H0.out.later BW16.out) sm0 hlc0).mono ?_
  rintro e17 v17 ⟨x17, rfl, hr, hB⟩
  have hz17 := hB.size
  have D17 := Lib.hid hB
  have BW17 := Lib.hid (BW16.out.trans (hB.mono (by omega)))
  have G0_17 := Lib.hid (G0_16.out.later hB)
  clear G0_16
  have M_17 := Lib.hid (M_16.out.below hB)
  clear M_16
  obtain ⟨pQ0, cQ0, hv, hk, _, hs⟩ := hr.sees c1_len
  rw [HZ0.out] at hv hk
  subst hv
  clear hk hs
  have Q0_17 := Lib.hid hr
  clear hr
  clear hB
  go_wp2_with fail
  refine (toIntS_any a1 len1 cap1 zs1 _ (H1.out.later BW17.out) sm1 hlc1).mono ?_
  rintro e18 v18 ⟨x18, rfl, hr, hB⟩
  have hz18 := hB.size
  have D18 := Lib.hid hB
  have BW18 := Lib.hid (BW17.out.trans (hB.mono (by omega)))
  have G0_18 := Lib.hid (G0_17.out.later hB)
  clear G0_17
  have Q0_18 := Lib.hid (Q0_17.out.later hB)
  clear Q0_17
  have M_18 := Lib.hid (M_17.out.below hB)
  clear M_17
  obtain ⟨pQ1, cQ1, hv, hk, _, hs⟩ := hr.sees c1_len
  rw [HZ1.out] at hv hk
  subst hv
  clear hk hs
  have Q1_18 := Lib.hid hr
  clear hr
  clear hB
  have hq := implSP_any _ _ len0 len1 cQ0 cQ1 _ _ zs0 zs1 v18 HZ0.out HZ1.out (Q0_18.out.seen c1_len).1 (Q1_18.out.seen c1_len).1 (by omega) (by omega)
  rw [← HR.out] at hq
  go_wp2_with fail
  refine hq.mono ?_
  clear hq
  rintro e19 v19 ⟨x19, rfl, hr, hB⟩
  have hz19 := hB.size
  have BW19 := Lib.hid (BW18.out.trans (hB.mono (by omega)))
  have G0_19 := Lib.hid (G0_18.out.later hB)
  clear G0_18
  have Q0_19 := Lib.hid (Q0_18.out.later hB)
  clear Q0_18
  have Q1_19 := Lib.hid (Q1_18.out.later hB)
  clear Q1_18
  have M_19 := Lib.hid (M_18.out.below hB)
  clear M_18
  obtain ⟨pG2, cG2, hv, hk, _, hs⟩ := hr.sees c1_len
  rw [HN.out] at hv hk
  subst hv
  clear hk hs
  have G2_19 := Lib.hid hr
  clear hr hB
  go_wp2_with fail
  refine (eqIntS_same _ _ _ _ _ _ _ _ _ HN.out (G2_19.out.seen c1_len).1 (G0_19.out.seen c1_len).1 hlen).mono ?_
  rintro e20 v20 ⟨rfl, hB⟩
  have hz20 := hB.size
  have D20 := Lib.hid hB
  have BW20 := Lib.hid (BW19.out.trans (hB.mono (by omega)))
  have G0_20 := Lib.hid (G0_19.out.later hB)
  clear G0_19
  have Q0_20 := Lib.hid (Q0_19.out.later hB)
  clear Q0_19
  have Q1_20 := Lib.hid (Q1_19.out.later hB)
  clear Q1_19
  have G2_20 := Lib.hid (G2_19.out.later hB)
  clear G2_19
  have M_20 := Lib.hid (M_19.out.below hB)
  clear M_19
  clear hB
  go_wp2_with fail
  refine (heldIntS_any n' _ _ 1 _ M_20.out hlen (by omega) (by omega)).mono ?_
  rintro e21 v21 ⟨rfl, hB⟩
  have hz21 := hB.size
  have D21 := Lib.hid hB
  have BW21 := Lib.hid (BW20.out.trans (hB.mono (by omega)))
  have G0_21 := Lib.hid (G0_20.out.later hB)
  clear G0_20
  have Q0_21 := Lib.hid (Q0_20.out.later hB)
  clear Q0_20
  have Q1_21 := Lib.hid (Q1_20.out.later hB)
  clear Q1_20
  have G2_21 := Lib.hid (G2_20.out.later hB)
  clear G2_20
  have M_21 := Lib.hid (M_20.out.below hB)
  clear M_20
  clear hB
  go_wp2
  go_ret
  exact ⟨rfl, BW21.out⟩
end Go.Proofs.Ytdahpjbpcdfhkaa
