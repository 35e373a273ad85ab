/-
  PrimeOnSeries: both ways. Printed by mkpos.py.
-/
import Derived.Test.YtdahpjbpcdfhkaaSer
import Derived.Test.YtdahpjbpcdfhkaaPrime
import Derived.Test.YtdahpjbpcdfhkaaKro
import Derived.Test.YtdahpjbpcdfhkaaDisc
namespace Go.Proofs.Ytdahpjbpcdfhkaa
open Go.RowKit
attribute [local simp, local go_sem] past_cell past_frozen past_tape
theorem ser_get {zs : List Int} {n k : Nat} (hs : serB zs = true) (hn : zs.length = n) (hk : k < n) : ∃ x, zs[k]? = some x ∧ zs.getD k 0 = x ∧ Bd 1000000 x := by
  subst hn
  refine ⟨zs[k], by simp [hk], by simp [List.getD_eq_getElem?_getD, hk], ?_⟩
  simp only [serB, Bool.and_eq_true, List.all_eq_true] at hs
  exact numB_bd (hs.2 _ (List.getElem_mem hk))
theorem ser_len {zs : List Int} (hs : serB zs = true) : 1 ≤ zs.length ∧ zs.length ≤ 101 := by
  simp only [serB, Bool.and_eq_true, decide_eq_true_eq] at hs
  exact hs.1
/-- What a prime makes of a series. -/
def psV (d : Int) (P : Nat) (zs : List Int) (k : Nat) : Int := zs.getD (k * P) 0 + (if k % P = 0 then kro d P * zs.getD (k / P) 0 else 0)
def psL (d : Int) (P : Nat) (zs : List Int) : Nat → List Int
  | 0 => []
  | k + 1 => psL d P zs k ++ [psV d P zs k]
theorem psL_len (d : Int) (P : Nat) (zs : List Int) (k : Nat) : (psL d P zs k).length = k := by
  induction k with
  | zero => rfl
  | succ k ih => rw [psL, List.length_append, ih]; rfl
def psN (P n : Nat) : Nat := (n + P - 1) / P
theorem psN_iff {P n k : Nat} (hP : 1 ≤ P) (hn : 1 ≤ n) : k < psN P n ↔ k * P < n := by
  unfold psN
  have := Nat.le_div_iff_mul_le (k := P) (x := k + 1) (y := n + P - 1) hP
  rw [Nat.succ_mul] at this
  constructor
  · intro h
    have := this.1 h
    omega
  · intro h
    exact this.2 (by omega)
theorem psN_le {P n : Nat} (hP : 1 ≤ P) (hn : 1 ≤ n) : 1 ≤ psN P n ∧ psN P n ≤ n := by
  have h0 : 0 < psN P n := (psN_iff hP hn).2 (by omega)
  have h1 : psN P n - 1 < psN P n := by omega
  have h2 := (psN_iff hP hn).1 h1
  have h3 : (psN P n - 1) * 1 ≤ (psN P n - 1) * P := Nat.mul_le_mul_left _ hP
  omega
def psA (d : Int) (P : Nat) (zs : List Int) : List Int := psL d P zs (psN P zs.length)
def psB (d p : Int) (zs : List Int) : Bool := (negB d && (numB p && primeB p)) && serB zs
def psR (d p : Int) (zs : List Int) : List Int × Bool := if psB d p zs && (psA d p.toNat zs).all numB then (psA d p.toNat zs, true) else ([], false)
theorem psR_len (d p : Int) (zs : List Int) : (psR d p zs).1.length ≤ 1100000 := by
  unfold psR
  split
  · rename_i h
    simp only [psB, Bool.and_eq_true] at h
    obtain ⟨⟨⟨_, _, hp⟩, hs⟩, _⟩ := h
    have hp2 := primeB_ge hp
    have hl := ser_len hs
    have := psN_le (P := p.toNat) (n := zs.length) (by omega) hl.1
    show (psA d p.toNat zs).length ≤ _
    rw [psA, psL_len]
    omega
  · simp
theorem IsPrime_any (n : Int) (w : World) : Calls Try.prog 50 #[.int .i64 n] w fun en w' => en = .returned (.bool (numB n && primeB n)) ∧ Below w.heap.size w w' := by
  cases c : numB n with
  | true =>
    obtain ⟨_, c2⟩ := numB_bd c
    have hA : Hid (∀ w1 : World, w1.cell? ⟨w.heap.size, 0, none⟩ = some (.int .i64 n) → Calls Try.prog 53 #[.slice (some ⟨w.heap.size, 0, none⟩) 1 1] w1 fun en w' => en = .returned (.bool true) ∧ w1 = w') := fun w1 h1 => by
      have := areNumbers_any [n] w.heap.size w1 (by simp) (fun i hi => by simp at hi; subst hi; simpa using h1)
      simpa [c] using this
    go_enter Try.func50, Try.ntmps50
    go_wp2_with (first | (go_at_call 53; refine (hA.out _ (by simp [go_sem])).mono ?_; rintro e w' ⟨rfl, rfl⟩) | (go_at_call 70; refine (isPrime_any _ _ (by omega)).mono ?_; rintro e w' ⟨rfl, rfl⟩))
    go_ret
    exact ⟨ret_bool (by simp), (Below.refl _ _).alloc (Nat.le_refl _) _⟩
  | false =>
    have hA : Hid (∀ w1 : World, w1.cell? ⟨w.heap.size, 0, none⟩ = some (.int .i64 n) → Calls Try.prog 53 #[.slice (some ⟨w.heap.size, 0, none⟩) 1 1] w1 fun en w' => en = .returned (.bool false) ∧ w1 = w') := fun w1 h1 => by
      have := areNumbers_any [n] w.heap.size w1 (by simp) (fun i hi => by simp at hi; subst hi; simpa using h1)
      simpa [c] using this
    go_enter Try.func50, Try.ntmps50
    go_wp2_with (first | (go_at_call 53; refine (hA.out _ (by simp [go_sem])).mono ?_; rintro e w' ⟨rfl, rfl⟩))
    go_ret
    exact ⟨ret_bool (by simp), (Below.refl _ _).alloc (Nat.le_refl _) _⟩
theorem checked_any (B : Nat) (v : Value) (l : List Int) (w : World) (h : Rw B 3 1 c1 w v l) (hB : B ≤ w.heap.size) (hl : l.length ≤ 1100000) :
    Calls Try.prog 52 #[v] w fun en w' => ∃ v', en = .returned (.tuple #[v', .bool (l.all numB)]) ∧ Rw B 3 1 c1 w' v' (if l.all numB then l else []) ∧ Below w.heap.size w w' := by
  obtain ⟨a, cap, rfl, _, _, hs⟩ := h.sees c1_len
  have hA := Lib.hid (areNums_any B l.length cap a l w rfl hs hl)
  have HR := Lib.hid h
  clear hs h
  generalize hn : l.length = n at *
  cases c : l.all numB with
  | true =>
    rw [c] at hA
    clear hn
    go_enter Try.func52, Try.ntmps52
    go_wp2_with (go_at_call 53; refine hA.out.mono ?_; rintro e w' ⟨rfl, rfl⟩)
    go_ret2
    exact ⟨_, rfl, HR.out, Below.refl _ _⟩
  | false =>
    rw [c] at hA
    clear hn
    go_enter Try.func52, Try.ntmps52
    go_wp2_with (go_at_call 53; refine hA.out.mono ?_; rintro e w' ⟨rfl, rfl⟩)
    go_ret2
    exact ⟨_, rfl, Rw.empty hB, (Below.refl _ _).alloc (Nat.le_refl _) _⟩
theorem thIf_any (B : Nat) (v : Value) (l : List Int) (w : World) (h : Rw B 3 1 c1 w v l) (h1 : 1 ≤ l.length) (h2 : l.length ≤ 101) :
    Calls Try.prog 49 #[v] w fun en w' => ∃ v', en = .returned (.tuple #[v', .bool (l.all numB)]) ∧ Rw B 3 1 c1 w' v' (if l.all numB then l else []) ∧ Below w.heap.size w w' := by
  obtain ⟨a, cap, rfl, _, _, hs⟩ := h.sees c1_len
  have hA0 := thGood_any B l.length cap a l w rfl hs (by omega)
  rw [show serB l = l.all numB by rw [serB, decide_eq_true ⟨h1, h2⟩, Bool.true_and]] at hA0
  have hA := Lib.hid hA0
  have HR := Lib.hid h
  clear hs h hA0 h1 h2
  generalize hn : l.length = n at *
  cases c : l.all numB with
  | true =>
    rw [c] at hA
    clear hn
    go_enter Try.func49, Try.ntmps49
    go_wp2_with (go_at_call 48; refine hA.out.mono ?_; rintro e w' ⟨rfl, rfl⟩)
    go_ret2
    exact ⟨_, rfl, HR.out, Below.refl _ _⟩
  | false =>
    rw [c] at hA
    clear hn
    go_enter Try.func49, Try.ntmps49
    go_wp2_with (go_at_call 48; refine hA.out.mono ?_; rintro e w' ⟨rfl, rfl⟩)
    go_ret2
    exact ⟨_, rfl, Rw.nil _ _ _ _ _, Below.refl _ _⟩
set_option maxRecDepth 100000 in
set_option maxHeartbeats 4000000 in
theorem implPos_yes (d : Int) (P : Nat) (B n cap : Nat) (a : Option Addr) (zs : List Int) (w : World) (hd : negB d = true) (hpn : numB (P : Int) = true) (hpp : primeB (P : Int) = true) (hs : serB zs = true) (hn : zs.length = n) (h : Sees B 1 c1 w a zs) :
    Calls Try.prog 24 #[.int .i64 d, .int .i64 (P : Int), .slice a n cap] w fun en w' => ∃ v, en = .returned (.tuple #[v, .bool ((psA d P zs).all numB)]) ∧ Rw w.heap.size 3 1 c1 w' v (if (psA d P zs).all numB then psA d P zs else []) ∧ Below w.heap.size w w' := by
  have hp2 := primeB_ge hpp
  obtain ⟨_, hp3⟩ := numB_bd hpn
  obtain ⟨d1, d2, _⟩ := negB_true hd
  have hdI : I64 d := ⟨by omega, by omega⟩
  obtain ⟨l1, l2⟩ := ser_len hs
  rw [hn] at l1 l2
  have hP1 : 1 ≤ P := by omega
  obtain ⟨N, hN⟩ : ∃ N, N = psN P n := ⟨_, rfl⟩
  have hNle := psN_le hP1 l1
  have HNI : Hid (∀ k, k < N ↔ k * P < n) := fun k => by rw [hN]; exact psN_iff hP1 l1
  rw [← hN] at hNle
  obtain ⟨N1, N2⟩ := hNle
  have HA : Hid (psA d P zs = psL d P zs N) := by show _ = _; rw [psA, hn, hN]
  rw [HA.out]
  obtain ⟨R, hRz⟩ : ∃ R, R = (if (psL d P zs N).all numB then psL d P zs N else []) := ⟨_, rfl⟩
  rw [← hRz]
  obtain ⟨r, hrz⟩ : ∃ r, r = (psL d P zs N).all numB := ⟨_, rfl⟩
  rw [← hrz]
  have HRZ := Lib.hid hRz
  have HrZ := Lib.hid hrz
  clear hN hRz hrz
  obtain ⟨g, rfl, _, hgw, hcell, _⟩ := h.resolve_left (by omega)
  have HC : Hid (∀ k x, zs[k]? = some x → w.cell? ⟨g, k, none⟩ = some (.int .i64 x)) := fun k x hx => by have := hcell k x hx 0 (by omega); simpa [c1] using this
  have HS0 := Lib.hid h
  have HN := Lib.hid hn
  have HSER := Lib.hid hs
  have H1 : Hid (∀ w1, Calls Try.prog 34 #[.int .i64 d] w1 fun en w' => en = .returned (.bool true) ∧ w1 = w') := fun w1 => by rw [← hd]; exact isNegativeDisc_any d w1 hdI
  have H2 : Hid (∀ w1, Calls Try.prog 50 #[.int .i64 (P : Int)] w1 fun en w' => en = .returned (.bool true) ∧ Below w1.heap.size w1 w') := fun w1 => by have := IsPrime_any (P : Int) w1; rwa [hpn, hpp] at this
  have H3 : Hid (∀ w1, Below w.heap.size w w1 → Calls Try.prog 51 #[.slice (some ⟨g, 0, none⟩) n cap] w1 fun en w' => en = .returned (.bool true) ∧ w1 = w') := fun w1 hb => by rw [← hs]; exact isSeries_any B n cap _ zs w1 hn (HS0.out.below hb) (by omega)
  clear hpn hpp hd hs hn h hcell
  go_enter Try.func24, Try.ntmps24
  go_wp2_with (go_at_call 34; refine (H1.out _).mono ?_; rintro e w' ⟨rfl, rfl⟩)
  refine (H2.out _).mono ?_
  rintro e0 w0 ⟨rfl, hB0⟩
  have hz0 := hB0.size
  have HB0 := Lib.hid hB0
  clear hB0
  go_wp2_with (go_at_call 51; refine (H3.out _ HB0.out).mono ?_; rintro e w' ⟨rfl, rfl⟩)
  go_loopw [8, 9, 10] (fun v i _ wr => ∃ k : Nat, i = .int .i64 (k : Int) ∧ k ≤ N ∧ Hid (Rw w.heap.size 3 1 c1 wr v (psL d P zs k)) ∧ Hid (Below w.heap.size w wr)) (fun _ i _ _ => N - (intOf i).toNat)
  case atStart =>
    refine ⟨0, rfl, by omega, ?_, ?_⟩
    · exact Rw.empty hz0
    · exact HB0.out.alloc hz0 _
  case round =>
    obtain ⟨k, rfl, hk, hr, hb⟩ := hrel
    obtain ⟨wo, rfl⟩ : ∃ wo : World, wo = wr := ⟨_, rfl⟩
    have hbz := hb.out.size
    by_cases hlt : k < N
    · have hkn := (HNI.out k).1 hlt
      obtain ⟨q, hq⟩ : ∃ q : Nat, q = k * P := ⟨_, rfl⟩
      have hkq : (k : Int) * (P : Int) = (q : Int) := by rw [hq]; push_cast; rfl
      rw [← hq] at hkn
      obtain ⟨x, hx, hxd, x1, x2⟩ := ser_get HSER.out HN.out hkn
      have hgwo : g < wo.heap.size := by omega
      have hcx : wo.cell? ⟨g, q, none⟩ = some (.int .i64 x) := by rw [bG hb.out hgw]; exact HC.out q x hx
      by_cases hc : k % P = 0
      · have hz2 : ((k : Int) % (P : Int) == 0) = true := by rw [← Int.natCast_emod, hc]; rfl
        obtain ⟨s, hs⟩ : ∃ s : Nat, s = k / P := ⟨_, rfl⟩
        have hks : (k : Int) / (P : Int) = (s : Int) := by rw [hs]; push_cast; rfl
        have hsn : s < n := by have := Nat.div_le_self k P; omega
        obtain ⟨y, hy, hyd, y1, y2⟩ := ser_get HSER.out HN.out hsn
        have hcy : wo.cell? ⟨g, s, none⟩ = some (.int .i64 y) := by rw [bG hb.out hgw]; exact HC.out s y hy
        have HV : Hid (psL d P zs (k + 1) = psL d P zs k ++ [x + kro d P * y]) := by show _ = _; rw [psL, psV, ← hq, ← hs, hxd, hyd, if_pos hc]
        have hkb := kro_bd d P
        obtain ⟨m1, m2⟩ := mul_bd hkb (show Bd 1000000 y from ⟨y1, y2⟩) (show (1 : Int) * 1000000 ≤ 1000000 by decide)
        obtain ⟨kb1, kb2⟩ := hkb
        have hK : Hid (∀ w1, Calls Try.prog 40 #[.int .i64 d, .int .i64 (P : Int)] w1 fun en w' => en = .returned (.int .i64 (kro d P)) ∧ w1 = w') := fun w1 => kronecker_any d P w1 ⟨by omega, by omega⟩ hP1 (by omega)
        generalize kro d P = K at *
        have hlen := psL_len d P zs k
        clear hc hq hs hx hy hxd hyd
        go_wp2_with fail
        refine wp_region_past_tail 12 (by kernel_rfl) (by kernel_rfl) ?_
        simp only [List.take_succ_cons, List.take_zero, List.drop_succ_cons, List.drop_zero]
        repeat (first | go_big_quiet_skip | (go_big_quiet_want; go_big_quiet_op; first | go_big_quiet_on | (apply Exists.intro; refine ⟨fun _ => ?_, ?_⟩; (focus ((go_at_call 40; exact past_same (hK.out _)))); go_big_quiet_on)))
        refine wpQuiet_nil ?_
        intro w1 hw'
        have hB1 := past_below hw'
        clear hw'
        obtain ⟨hC1, hF1⟩ := bcell hB1
        have hS1 := hB1.size
        (try simp at hS1)
        (try have hS1_w0 : w.heap.size < w1.heap.size := by omega)
        (try have hS1_w1 : w.heap.size + 1 < w1.heap.size := by omega)
        (try have hS1_w2 : w.heap.size + 1 + 1 < w1.heap.size := by omega)
        (try have hS1_w3 : w.heap.size + 1 + 1 + 1 < w1.heap.size := by omega)
        (try have hS1_w4 : w.heap.size + 1 + 1 + 1 + 1 < w1.heap.size := by omega)
        have hz1 := hB1.size
        have hb1 : Below w.heap.size w w1 := hb.out.trans (hB1.mono hbz)
        have hr1 := Lib.hid (hr.out.later hB1)
        have HB1 := Lib.hid hb1
        have hbz1 := hb1.size
        clear hb1
        go_wp2_with (at_builtin; go_loud (refine app_int (hr1.out.alloc _) (by rfl) _ _ _ (by rfl) (by kernel_rfl) (by rfl) _ (x + K * y) (by rfl) (heap_alloc_new _ _) (by omega) (by simp; omega) ?_))
        intro vA wA hrA hgA hatA
        have hbA : Below w.heap.size w wA := below_of_grown (HB1.out.alloc hbz1 _) hgA (by simp; omega) (fun g hg => (hr1.out.lt g hg).1)
        have HRA := Lib.hid hrA
        have HBA := Lib.hid hbA
        clear hrA hbA hgA hatA
        go_wp2
        go_roundw
        case rel =>
          go_light
          refine ⟨k + 1, by go_num, by omega, ?_, HBA.out⟩
          show Rw _ _ _ _ _ _ _
          rw [HV.out]; exact HRA.out
        case measure => simp [intOf]; omega
      · have hz2 : ((k : Int) % (P : Int) == 0) = false := by
          have : ¬ (k : Int) % (P : Int) = 0 := by rw [← Int.natCast_emod]; omega
          simp [this]
        have HV : Hid (psL d P zs (k + 1) = psL d P zs k ++ [x]) := by show _ = _; rw [psL, psV, ← hq, hxd, if_neg hc, Int.add_zero]
        have hlen := psL_len d P zs k
        clear hc hq hx hxd
        go_wp2_with (at_builtin; go_loud (refine app_int (hr.out.alloc _) (by rfl) _ _ _ (by rfl) (by kernel_rfl) (by rfl) _ x (by rfl) (heap_alloc_new _ _) (by omega) (by simp; omega) ?_))
        intro vA wA hrA hgA hatA
        have hbA : Below w.heap.size w wA := below_of_grown (hb.out.alloc hbz _) hgA (by simp; omega) (fun g hg => (hr.out.lt g hg).1)
        have HRA := Lib.hid hrA
        have HBA := Lib.hid hbA
        clear hrA hbA hgA hatA
        go_wp2
        go_roundw
        case rel =>
          go_light
          refine ⟨k + 1, by go_num, by omega, ?_, HBA.out⟩
          show Rw _ _ _ _ _ _ _
          rw [HV.out]; exact HRA.out
        case measure => simp [intOf]; omega
    · have hkN : k = N := by omega
      subst hkN
      have hkn : ¬ k * P < n := fun h => hlt ((HNI.out k).2 h)
      obtain ⟨q, hq⟩ : ∃ q : Nat, q = k * P := ⟨_, rfl⟩
      have hkq : (k : Int) * (P : Int) = (q : Int) := by rw [hq]; push_cast; rfl
      rw [← hq] at hkn
      have hlen := psL_len d P zs k
      have hqb : q ≤ 101 * 1000000 := by rw [hq]; exact Nat.mul_le_mul (by omega) (by omega)
      clear hq
      go_wp2_with fail
      have key := checked_any _ _ _ _ hr.out hbz (by omega)
      rw [← HRZ.out, ← HrZ.out] at key
      refine key.mono ?_
      rintro e9 w9 ⟨v9, rfl, hr9, hB9⟩
      have HR9 := Lib.hid hr9
      have HB9 := Lib.hid (hb.out.trans (hB9.mono hbz))
      clear hr9 hB9
      go_wp2
      go_ret2
      exact ⟨_, rfl, HR9.out, HB9.out⟩
theorem implPos_any (d p : Int) (B n cap : Nat) (a : Option Addr) (zs : List Int) (w : World) (hd : I64 d) (hn : zs.length = n) (h : Sees B 1 c1 w a zs) (hl : n ≤ 1100000) :
    Calls Try.prog 24 #[.int .i64 d, .int .i64 p, .slice a n cap] w fun en w' => ∃ v, en = .returned (.tuple #[v, .bool (psR d p zs).2]) ∧ Rw w.heap.size 3 1 c1 w' v (psR d p zs).1 ∧ Below w.heap.size w w' := by
  by_cases c : psB d p zs = true
  · have c' := c
    simp only [psB, Bool.and_eq_true] at c'
    obtain ⟨⟨cd, cn, cp⟩, cs⟩ := c'
    have hp2 := primeB_ge cp
    obtain ⟨P, rfl⟩ : ∃ P : Nat, p = (P : Int) := ⟨p.toNat, by omega⟩
    have := implPos_yes d P B n cap a zs w cd cn cp cs hn h
    have hR : psR d (P : Int) zs = (if (psA d P zs).all numB then psA d P zs else [], (psA d P zs).all numB) := by
      rw [psR, c, Bool.true_and, Int.toNat_natCast]
      cases (psA d P zs).all numB <;> rfl
    rw [hR]
    exact this
  · have c' : psB d p zs = false := by simpa using c
    have hR : psR d p zs = ([], false) := by rw [psR, c', Bool.false_and]; rfl
    rw [hR]
    have HS0 := Lib.hid h
    clear c hR h
    have H3 : Hid (∀ w1, Below w.heap.size w w1 → Calls Try.prog 51 #[.slice a n cap] w1 fun en w' => en = .returned (.bool (serB zs)) ∧ w1 = w') := fun w1 hb => isSeries_any B n cap _ zs w1 hn (HS0.out.below hb) hl
    clear hn
    cases cd : negB d with
    | false =>
      clear c'
      go_enter Try.func24, Try.ntmps24
      go_wp2_with (go_at_call 34; refine (isNegativeDisc_any _ _ hd).mono ?_; rintro e w' ⟨rfl, rfl⟩)
      go_ret2
      exact ⟨_, rfl, Rw.empty (Nat.le_refl _), (Below.refl _ _).alloc (Nat.le_refl _) _⟩
    | true =>
      have hP : Hid (∀ w1, Calls Try.prog 50 #[.int .i64 p] w1 fun en w' => en = .returned (.bool (numB p && primeB p)) ∧ Below w1.heap.size w1 w') := fun w1 => IsPrime_any p w1
      cases cp : numB p && primeB p with
      | false =>
        rw [cp] at hP
        clear c' cp
        go_enter Try.func24, Try.ntmps24
        go_wp2_with (go_at_call 34; refine (isNegativeDisc_any _ _ hd).mono ?_; rintro e w' ⟨rfl, rfl⟩)
        refine (hP.out _).mono ?_
        rintro e0 w0 ⟨rfl, hB0⟩
        have hz0 := hB0.size
        have HB0 := Lib.hid hB0
        clear hB0
        go_wp2_with fail
        go_ret2
        exact ⟨_, rfl, Rw.empty hz0, HB0.out.alloc hz0 _⟩
      | true =>
        rw [cp] at hP
        have cs : serB zs = false := by
          rw [psB, cd, cp] at c'
          simpa using c'
        rw [cs] at H3
        clear c' cp cs
        go_enter Try.func24, Try.ntmps24
        go_wp2_with (go_at_call 34; refine (isNegativeDisc_any _ _ hd).mono ?_; rintro e w' ⟨rfl, rfl⟩)
        refine (hP.out _).mono ?_
        rintro e0 w0 ⟨rfl, hB0⟩
        have hz0 := hB0.size
        have HB0 := Lib.hid hB0
        clear hB0
        go_wp2_with (go_at_call 51; refine (H3.out _ HB0.out).mono ?_; rintro e w' ⟨rfl, rfl⟩)
        go_ret2
        exact ⟨_, rfl, Rw.empty hz0, HB0.out.alloc hz0 _⟩
set_option maxRecDepth 100000 in
set_option maxHeartbeats 4000000 in
theorem specPos_yes (d : Int) (P : Nat) (B n cap : Nat) (a : Option Addr) (zs : List Int) (w : World) (hd : negB d = true) (hpn : numB (P : Int) = true) (hpp : primeB (P : Int) = true) (hs : serB zs = true) (hn : zs.length = n) (h : Sees B 1 c1 w a zs) :
    Calls Try.prog 22 #[.int .i64 d, .int .i64 (P : Int), .slice a n cap] w fun en w' => ∃ v, en = .returned (.tuple #[v, .bool ((psA d P zs).all numB)]) ∧ Rw w.heap.size 3 1 c1 w' v (if (psA d P zs).all numB then psA d P zs else []) ∧ Below w.heap.size w w' := by
  have hp2 := primeB_ge hpp
  obtain ⟨_, hp3⟩ := numB_bd hpn
  obtain ⟨d1, d2, _⟩ := negB_true hd
  have hdI : I64 d := ⟨by omega, by omega⟩
  obtain ⟨l1, l2⟩ := ser_len hs
  rw [hn] at l1 l2
  have hP1 : 1 ≤ P := by omega
  obtain ⟨N, hN⟩ : ∃ N, N = psN P n := ⟨_, rfl⟩
  have hNle := psN_le hP1 l1
  have HNI : Hid (∀ k, k < N ↔ k * P < n) := fun k => by rw [hN]; exact psN_iff hP1 l1
  rw [← hN] at hNle
  obtain ⟨N1, N2⟩ := hNle
  have HA : Hid (psA d P zs = psL d P zs N) := by show _ = _; rw [psA, hn, hN]
  rw [HA.out]
  obtain ⟨R, hRz⟩ : ∃ R, R = (if (psL d P zs N).all numB then psL d P zs N else []) := ⟨_, rfl⟩
  rw [← hRz]
  obtain ⟨r, hrz⟩ : ∃ r, r = (psL d P zs N).all numB := ⟨_, rfl⟩
  rw [← hrz]
  have HRZ := Lib.hid hRz
  have HrZ := Lib.hid hrz
  clear hN hRz hrz
  obtain ⟨g, rfl, _, hgw, hcell, _⟩ := h.resolve_left (by omega)
  have HC : Hid (∀ k x, zs[k]? = some x → w.cell? ⟨g, k, none⟩ = some (.int .i64 x)) := fun k x hx => by have := hcell k x hx 0 (by omega); simpa [c1] using this
  have HS0 := Lib.hid h
  have HN := Lib.hid hn
  have HSER := Lib.hid hs
  have H1 : Hid (∀ w1, Calls Try.prog 31 #[.int .i64 d] w1 fun en w' => en = .returned (.bool true) ∧ w1 = w') := fun w1 => by rw [← hd]; exact reDisc_any d w1 hdI
  have H2 : Hid (∀ w1, Calls Try.prog 46 #[.int .i64 (P : Int)] w1 fun en w' => en = .returned (.bool true) ∧ w1 = w') := fun w1 => by have := nuGood_any (P : Int) w1; rwa [hpn] at this
  have H2' : Hid (∀ w1, Calls Try.prog 47 #[.int .i64 (P : Int)] w1 fun en w' => en = .returned (.bool true) ∧ w1 = w') := fun w1 => by have := nuPrime_any (P : Int) w1 (by omega); rwa [hpp] at this
  have H3 : Hid (∀ w1, Below w.heap.size w w1 → Calls Try.prog 48 #[.slice (some ⟨g, 0, none⟩) n cap] w1 fun en w' => en = .returned (.bool true) ∧ w1 = w') := fun w1 hb => by rw [← hs]; exact thGood_any B n cap _ zs w1 hn (HS0.out.below hb) (by omega)
  clear hpn hpp hd hs hn h hcell
  go_enter Try.func22, Try.ntmps22
  go_wp2_with (first | (go_at_call 31; refine (H1.out _).mono ?_; rintro e w' ⟨rfl, rfl⟩) | (go_at_call 46; refine (H2.out _).mono ?_; rintro e w' ⟨rfl, rfl⟩) | (go_at_call 47; refine (H2'.out _).mono ?_; rintro e w' ⟨rfl, rfl⟩) | (go_at_call 48; refine (H3.out _ (Below.refl _ _)).mono ?_; rintro e w' ⟨rfl, rfl⟩))
  go_loopw [8, 9, 10] (fun v i _ wr => ∃ k : Nat, i = .int .i64 (k : Int) ∧ k ≤ N ∧ Hid (Rw w.heap.size 3 1 c1 wr v (psL d P zs k)) ∧ Hid (Below w.heap.size w wr)) (fun _ i _ _ => N - (intOf i).toNat)
  case atStart =>
    exact ⟨0, rfl, by omega, Rw.nil _ _ _ _ _, Below.refl _ _⟩
  case round =>
    obtain ⟨k, rfl, hk, hr, hb⟩ := hrel
    obtain ⟨wo, rfl⟩ : ∃ wo : World, wo = wr := ⟨_, rfl⟩
    have hbz := hb.out.size
    by_cases hlt : k < N
    · have hkn := (HNI.out k).1 hlt
      obtain ⟨q, hq⟩ : ∃ q : Nat, q = k * P := ⟨_, rfl⟩
      have hkq : (k : Int) * (P : Int) = (q : Int) := by rw [hq]; push_cast; rfl
      rw [← hq] at hkn
      obtain ⟨x, hx, hxd, x1, x2⟩ := ser_get HSER.out HN.out hkn
      have hgwo : g < wo.heap.size := by omega
      have hcx : wo.cell? ⟨g, q, none⟩ = some (.int .i64 x) := by rw [bG hb.out hgw]; exact HC.out q x hx
      by_cases hc : k % P = 0
      · have hz2 : ((k : Int) % (P : Int) == 0) = true := by rw [← Int.natCast_emod, hc]; rfl
        obtain ⟨s, hs⟩ : ∃ s : Nat, s = k / P := ⟨_, rfl⟩
        have hks : (k : Int) / (P : Int) = (s : Int) := by rw [hs]; push_cast; rfl
        have hsn : s < n := by have := Nat.div_le_self k P; omega
        obtain ⟨y, hy, hyd, y1, y2⟩ := ser_get HSER.out HN.out hsn
        have hcy : wo.cell? ⟨g, s, none⟩ = some (.int .i64 y) := by rw [bG hb.out hgw]; exact HC.out s y hy
        have HV : Hid (psL d P zs (k + 1) = psL d P zs k ++ [x + kro d P * y]) := by show _ = _; rw [psL, psV, ← hq, ← hs, hxd, hyd, if_pos hc]
        have hkb := kro_bd d P
        obtain ⟨m1, m2⟩ := mul_bd hkb (show Bd 1000000 y from ⟨y1, y2⟩) (show (1 : Int) * 1000000 ≤ 1000000 by decide)
        obtain ⟨kb1, kb2⟩ := hkb
        have hK : Hid (∀ w1, Calls Try.prog 38 #[.int .i64 d, .int .i64 (P : Int)] w1 fun en w' => en = .returned (.int .i64 (kro d P)) ∧ Below w1.heap.size w1 w') := fun w1 => syKronecker_any d P w1 ⟨by omega, by omega⟩ hP1 (by omega)
        generalize kro d P = K at *
        have hlen := psL_len d P zs k
        clear hc hq hs hx hy hxd hyd
        go_wp2_with fail
        refine wp_region_past_tail 12 (by kernel_rfl) (by kernel_rfl) ?_
        simp only [List.take_succ_cons, List.take_zero, List.drop_succ_cons, List.drop_zero]
        repeat (first | go_big_quiet_skip | (go_big_quiet_want; go_big_quiet_op; first | go_big_quiet_on | (apply Exists.intro; refine ⟨fun _ => ?_, ?_⟩; (focus ((go_at_call 38; exact past_of (hK.out _)))); go_big_quiet_on)))
        refine wpQuiet_nil ?_
        intro w1 hw'
        have hB1 := past_below hw'
        clear hw'
        obtain ⟨hC1, hF1⟩ := bcell hB1
        have hS1 := hB1.size
        (try simp at hS1)
        (try have hS1_w0 : w.heap.size < w1.heap.size := by omega)
        (try have hS1_w1 : w.heap.size + 1 < w1.heap.size := by omega)
        (try have hS1_w2 : w.heap.size + 1 + 1 < w1.heap.size := by omega)
        (try have hS1_w3 : w.heap.size + 1 + 1 + 1 < w1.heap.size := by omega)
        (try have hS1_w4 : w.heap.size + 1 + 1 + 1 + 1 < w1.heap.size := by omega)
        have hz1 := hB1.size
        have hb1 : Below w.heap.size w w1 := hb.out.trans (hB1.mono hbz)
        have hr1 := Lib.hid (hr.out.later hB1)
        have HB1 := Lib.hid hb1
        have hbz1 := hb1.size
        clear hb1
        go_wp2_with (at_builtin; go_loud (refine app_int (hr1.out.alloc _) (by rfl) _ _ _ (by rfl) (by kernel_rfl) (by rfl) _ (x + K * y) (by rfl) (heap_alloc_new _ _) (by omega) (by simp; omega) ?_))
        intro vA wA hrA hgA hatA
        have hbA : Below w.heap.size w wA := below_of_grown (HB1.out.alloc hbz1 _) hgA (by simp; omega) (fun g hg => (hr1.out.lt g hg).1)
        have HRA := Lib.hid hrA
        have HBA := Lib.hid hbA
        clear hrA hbA hgA hatA
        go_wp2
        go_roundw
        case rel =>
          go_light
          refine ⟨k + 1, by go_num, by omega, ?_, HBA.out⟩
          show Rw _ _ _ _ _ _ _
          rw [HV.out]; exact HRA.out
        case measure => simp [intOf]; omega
      · have hz2 : ((k : Int) % (P : Int) == 0) = false := by
          have : ¬ (k : Int) % (P : Int) = 0 := by rw [← Int.natCast_emod]; omega
          simp [this]
        have HV : Hid (psL d P zs (k + 1) = psL d P zs k ++ [x]) := by show _ = _; rw [psL, psV, ← hq, hxd, if_neg hc, Int.add_zero]
        have hlen := psL_len d P zs k
        clear hc hq hx hxd
        go_wp2_with (at_builtin; go_loud (refine app_int (hr.out.alloc _) (by rfl) _ _ _ (by rfl) (by kernel_rfl) (by rfl) _ x (by rfl) (heap_alloc_new _ _) (by omega) (by simp; omega) ?_))
        intro vA wA hrA hgA hatA
        have hbA : Below w.heap.size w wA := below_of_grown (hb.out.alloc hbz _) hgA (by simp; omega) (fun g hg => (hr.out.lt g hg).1)
        have HRA := Lib.hid hrA
        have HBA := Lib.hid hbA
        clear hrA hbA hgA hatA
        go_wp2
        go_roundw
        case rel =>
          go_light
          refine ⟨k + 1, by go_num, by omega, ?_, HBA.out⟩
          show Rw _ _ _ _ _ _ _
          rw [HV.out]; exact HRA.out
        case measure => simp [intOf]; omega
    · have hkN : k = N := by omega
      subst hkN
      have hkn : ¬ k * P < n := fun h => hlt ((HNI.out k).2 h)
      obtain ⟨q, hq⟩ : ∃ q : Nat, q = k * P := ⟨_, rfl⟩
      have hkq : (k : Int) * (P : Int) = (q : Int) := by rw [hq]; push_cast; rfl
      rw [← hq] at hkn
      have hlen := psL_len d P zs k
      have hqb : q ≤ 101 * 1000000 := by rw [hq]; exact Nat.mul_le_mul (by omega) (by omega)
      clear hq
      go_wp2_with fail
      have key := thIf_any _ _ _ _ hr.out (by omega) (by omega)
      rw [← HRZ.out, ← HrZ.out] at key
      refine key.mono ?_
      rintro e9 w9 ⟨v9, rfl, hr9, hB9⟩
      have HR9 := Lib.hid hr9
      have HB9 := Lib.hid (hb.out.trans (hB9.mono hbz))
      clear hr9 hB9
      go_wp2
      go_ret2
      exact ⟨_, rfl, HR9.out, HB9.out⟩
theorem specPos_any (d p : Int) (B n cap : Nat) (a : Option Addr) (zs : List Int) (w : World) (hd : I64 d) (hn : zs.length = n) (h : Sees B 1 c1 w a zs) (hl : n ≤ 1100000) :
    Calls Try.prog 22 #[.int .i64 d, .int .i64 p, .slice a n cap] w fun en w' => ∃ v, en = .returned (.tuple #[v, .bool (psR d p zs).2]) ∧ Rw w.heap.size 3 1 c1 w' v (psR d p zs).1 ∧ Below w.heap.size w w' := by
  by_cases c : psB d p zs = true
  · have c' := c
    simp only [psB, Bool.and_eq_true] at c'
    obtain ⟨⟨cd, cn, cp⟩, cs⟩ := c'
    have hp2 := primeB_ge cp
    obtain ⟨P, rfl⟩ : ∃ P : Nat, p = (P : Int) := ⟨p.toNat, by omega⟩
    have := specPos_yes d P B n cap a zs w cd cn cp cs hn h
    have hR : psR d (P : Int) zs = (if (psA d P zs).all numB then psA d P zs else [], (psA d P zs).all numB) := by
      rw [psR, c, Bool.true_and, Int.toNat_natCast]
      cases (psA d P zs).all numB <;> rfl
    rw [hR]
    exact this
  · have c' : psB d p zs = false := by simpa using c
    have hR : psR d p zs = ([], false) := by rw [psR, c', Bool.false_and]; rfl
    rw [hR]
    have HS0 := Lib.hid h
    clear c hR h
    have H3 : Hid (∀ w1, Below w.heap.size w w1 → Calls Try.prog 48 #[.slice a n cap] w1 fun en w' => en = .returned (.bool (serB zs)) ∧ w1 = w') := fun w1 hb => thGood_any B n cap _ zs w1 hn (HS0.out.below hb) hl
    clear hn
    cases cd : negB d with
    | false =>
      clear c'
      go_enter Try.func22, Try.ntmps22
      go_wp2_with (go_at_call 31; refine (reDisc_any _ _ hd).mono ?_; rintro e w' ⟨rfl, rfl⟩)
      go_ret2
      exact ⟨_, rfl, Rw.nil _ _ _ _ _, Below.refl _ _⟩
    | true =>
      cases cn : numB p with
      | false =>
        clear c'
        go_enter Try.func22, Try.ntmps22
        go_wp2_with (first | (go_at_call 31; refine (reDisc_any _ _ hd).mono ?_; rintro e w' ⟨rfl, rfl⟩) | (go_at_call 46; refine (nuGood_any _ _).mono ?_; rintro e w' ⟨rfl, rfl⟩))
        go_ret2
        exact ⟨_, rfl, Rw.nil _ _ _ _ _, Below.refl _ _⟩
      | true =>
        obtain ⟨_, hp3⟩ := numB_bd cn
        cases cp : primeB p with
        | false =>
          clear c'
          go_enter Try.func22, Try.ntmps22
          go_wp2_with (first | (go_at_call 31; refine (reDisc_any _ _ hd).mono ?_; rintro e w' ⟨rfl, rfl⟩) | (go_at_call 46; refine (nuGood_any _ _).mono ?_; rintro e w' ⟨rfl, rfl⟩) | (go_at_call 47; refine (nuPrime_any _ _ (by omega)).mono ?_; rintro e w' ⟨rfl, rfl⟩))
          go_ret2
          exact ⟨_, rfl, Rw.nil _ _ _ _ _, Below.refl _ _⟩
        | true =>
          have cs : serB zs = false := by
            rw [psB, cd, cn, cp] at c'
            simpa using c'
          rw [cs] at H3
          clear c' cs
          go_enter Try.func22, Try.ntmps22
          go_wp2_with (first | (go_at_call 31; refine (reDisc_any _ _ hd).mono ?_; rintro e w' ⟨rfl, rfl⟩) | (go_at_call 46; refine (nuGood_any _ _).mono ?_; rintro e w' ⟨rfl, rfl⟩) | (go_at_call 47; refine (nuPrime_any _ _ (by omega)).mono ?_; rintro e w' ⟨rfl, rfl⟩) | (go_at_call 48; refine (H3.out _ (Below.refl _ _)).mono ?_; rintro e w' ⟨rfl, rfl⟩))
          go_ret2
          exact ⟨_, rfl, Rw.nil _ _ _ _ _, Below.refl _ _⟩
end Go.Proofs.Ytdahpjbpcdfhkaa
