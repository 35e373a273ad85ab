/-
  The prime ideals over a prime, both ways; PrimeIdeals and IsPrimeIdeal.
-/
import Derived.Test.YtladcjoiaoaedaaPi
import Derived.Test.YtladcjoiaoaedaaKro
import Derived.Test.YtladcjoiaoaedaaQr
import Derived.Test.YtladcjoiaoaedaaPrime
import Derived.Test.YtladcjoiaoaedaaRwsL
import Derived.Test.YtladcjoiaoaedaaIno
import Derived.Test.YtladcjoiaoaedaaIdeal
namespace Go.Proofs.Ytladcjoiaoaedaa
open Go.RowKit
attribute [local simp, local go_sem] past_cell past_frozen past_tape

theorem four_sq (s : Int) : 2 * s * (2 * s) = 4 * (s * s) := by rw [Int.mul_assoc, Int.mul_left_comm s 2 s]; omega
theorem pr_of {p : Nat} (h : primeB p = true) (h2 : p ≠ 2) : PR p := by
  obtain ⟨h1, hd⟩ := (primeB_iff _).1 h
  have hdv : ∀ q : Nat, 2 ≤ q → q < p → p % q ≠ 0 := by
    intro q hq hqp h0
    refine hd q hq (by omega) ?_
    omega
  refine ⟨by omega, ?_, fun a ha => ?_, fun r hr => ?_⟩
  · have := hdv 2 (by omega) (by omega)
    omega
  · have hg := Nat.gcd_dvd_right a p
    have hg2 := Nat.gcd_dvd_left a p
    have hle := Nat.le_of_dvd (by omega) hg
    unfold Nat.Coprime
    rcases (show Nat.gcd a p = 0 ∨ Nat.gcd a p = 1 ∨ (2 ≤ Nat.gcd a p ∧ Nat.gcd a p < p) ∨ Nat.gcd a p = p by omega) with h | h | h | h
    · rw [h] at hg
      have := Nat.eq_zero_of_zero_dvd hg
      omega
    · exact h
    · exact absurd (Nat.mod_eq_zero_of_dvd hg) (hdv _ h.1 h.2)
    · rw [h] at hg2
      exact absurd (Nat.mod_eq_zero_of_dvd hg2) ha
  · have h3 : 2 ≤ r := by
      rcases Nat.lt_or_ge r 2 with h | h
      · rcases (show r = 0 ∨ r = 1 by omega) with rfl | rfl <;> omega
      · exact h
    have h4 : r < p := by
      have : r * 2 ≤ r * r := Nat.mul_le_mul_left r h3
      omega
    refine hdv r h3 h4 ?_
    rw [← hr, Nat.mul_mod_left]
theorem rtL_mem {d n : Int} {x k : Nat} (hx : x < k) (h : ((x : Int) * x - d) % (4 * n) = 0) : (x : Int) ∈ rtL d n k := by
  induction k with
  | zero => omega
  | succ k ih =>
    unfold rtL
    rcases Nat.lt_or_ge x k with h1 | h1
    · split
      · exact List.mem_append.2 (.inl (ih h1))
      · exact ih h1
    · obtain rfl : x = k := by omega
      rw [if_pos h]
      simp
theorem rtA_root {d : Int} {p : Nat} (ho : p % 2 = 1) (hd : d % 4 < 2) : rtA d p ≠ [] ↔ ∃ b, b * b % p = (d % (p : Int)).toNat % p := by
  have hp : (p : Int) ≠ 0 := by omega
  have hm0 := Int.emod_nonneg d hp
  have hm1 := Int.emod_lt_of_pos d (show (0 : Int) < p by omega)
  have hm : ((d % (p : Int)).toNat % p : Nat) = (d % (p : Int)).toNat := Nat.mod_eq_of_lt (by omega)
  rw [hm]
  constructor
  · intro h
    obtain ⟨x, hx⟩ := List.exists_mem_of_ne_nil _ h
    obtain ⟨x0, _, hx1⟩ := mem_rtL hx
    refine ⟨x.toNat, ?_⟩
    have h1 : ((p : Int)) ∣ x * x - d := Int.dvd_trans ⟨4, by omega⟩ (Int.dvd_of_emod_eq_zero hx1)
    have h2 := Int.emod_eq_emod_iff_emod_sub_eq_zero.2 (Int.emod_eq_zero_of_dvd h1)
    have h3 : ((x.toNat * x.toNat % p : Nat) : Int) = x * x % (p : Int) := by
      rw [Int.natCast_emod, Int.natCast_mul, Int.toNat_of_nonneg x0]
    omega
  · rintro ⟨b, hb⟩ hnil
    have key : ∀ c : Nat, c < 2 * p → c * c % p = (d % (p : Int)).toNat → (c : Int) % 2 = d % 2 → False := by
      intro c hc hcb hpar
      have h2 : (c : Int) * c % (p : Int) = d % (p : Int) := by
        have : ((c * c % p : Nat) : Int) = (c : Int) * c % (p : Int) := by rw [Int.natCast_emod, Int.natCast_mul]
        rw [← this, hcb]
        omega
      obtain ⟨v, hv⟩ := Int.dvd_of_emod_eq_zero (Int.emod_eq_emod_iff_emod_sub_eq_zero.1 h2)
      obtain ⟨h, hh⟩ : ∃ h : Int, (p : Int) = 2 * h + 1 := ⟨(p : Int) / 2, by omega⟩
      have h4 : ((c : Int) * c - d) % 4 = 0 := by
        obtain ⟨s, hs⟩ : ∃ s : Int, (c : Int) = 2 * s + d % 2 := ⟨((c : Int) - d % 2) / 2, by omega⟩
        have hdd : d % 2 = 0 ∨ d % 2 = 1 := by omega
        rw [hs]
        rcases hdd with e | e
        · rw [e, show (2 * s + 0) * (2 * s + 0) = 4 * (s * s) by rw [Int.add_zero, four_sq]]
          omega
        · rw [e, show (2 * s + 1) * (2 * s + 1) = 4 * (s * s) + 4 * s + 1 by rw [Int.add_mul, Int.mul_add, four_sq]; omega]
          omega
      obtain ⟨u, hu⟩ := Int.dvd_of_emod_eq_zero h4
      have hv4 : v = 4 * ((p : Int) * u - (h * h + h) * v) := by
        have e1 : (p : Int) * ((p : Int) * v) = (p : Int) * (4 * u) := by rw [← hv, hu]
        have e2 : (p : Int) * ((p : Int) * v) = (4 * (h * h) + 4 * h + 1) * v := by
          rw [← Int.mul_assoc, hh]
          congr 1
          rw [Int.add_mul, Int.mul_add, four_sq]
          omega
        have e3 : (4 * (h * h) + 4 * h + 1) * v = 4 * ((h * h + h) * v) + v := by
          rw [Int.add_mul, Int.one_mul, ← Int.mul_add, Int.mul_assoc]
        have e4 : (p : Int) * (4 * u) = 4 * ((p : Int) * u) := by rw [Int.mul_left_comm]
        omega
      have h5 : ((c : Int) * c - d) % (4 * (p : Int)) = 0 := by
        refine Int.emod_eq_zero_of_dvd ⟨(p : Int) * u - (h * h + h) * v, ?_⟩
        rw [hv]
        conv => lhs; rw [hv4]
        rw [Int.mul_left_comm, Int.mul_assoc]
      have := rtL_mem (k := (2 * (p : Int)).toNat) (by omega) h5
      unfold rtA at hnil
      rw [hnil] at this
      cases this
    have hc := Nat.mod_lt b (show 0 < p by omega)
    have hcb : (b % p) * (b % p) % p = (d % (p : Int)).toNat := by rw [← Nat.mul_mod, hb]
    by_cases hpar : ((b % p : Nat) : Int) % 2 = d % 2
    · exact key (b % p) (by omega) hcb hpar
    · refine key (b % p + p) (by omega) ?_ (by omega)
      rw [Nat.add_mul, Nat.mul_add, Nat.add_assoc, Nat.add_mod]
      have : (b % p * p + p * (b % p + p)) % p = 0 := by rw [Nat.mul_comm (b % p) p, ← Nat.mul_add, Nat.mul_mod_right]
      rw [this, Nat.add_zero, Nat.mod_mod, hcb]
theorem kro_neg {d : Int} {p : Nat} (hp : primeB p = true) (hle : p ≤ 10000) (hd : d % 4 < 2) : kro d p < 0 ↔ rtA d p = [] := by
  have h2 := primeB_ge hp
  by_cases h : p = 2
  · subst h
    have hk : kro d 2 = twoI d := by
      rw [kro_even (by omega) rfl, kro_odd rfl]
      show twoI d * jacW d 1 = _
      have : jacW d 1 = 1 := by
        unfold jacW
        rw [show ((1 : Nat) : Int) = 1 from rfl, Int.emod_one]
        rfl
      rw [this, Int.mul_one]
    rw [hk]
    have hr : rtA d ((2 : Nat) : Int) = rtL d 2 4 := rfl
    rw [hr]
    have h8 : d % 8 = 0 ∨ d % 8 = 1 ∨ d % 8 = 4 ∨ d % 8 = 5 := by omega
    rcases h8 with c | c | c | c
    · have ht : twoI d = 0 := by unfold twoI; rw [if_neg (by omega), if_neg (by omega)]
      rw [ht]
      have := rtL_mem (d := d) (n := 2) (x := 0) (k := 4) (by omega) (by omega)
      refine ⟨fun h => by omega, fun h => by rw [h] at this; cases this⟩
    · have ht : twoI d = 1 := by unfold twoI; rw [if_pos (by omega)]
      rw [ht]
      have := rtL_mem (d := d) (n := 2) (x := 1) (k := 4) (by omega) (by omega)
      refine ⟨fun h => by omega, fun h => by rw [h] at this; cases this⟩
    · have ht : twoI d = 0 := by unfold twoI; rw [if_neg (by omega), if_neg (by omega)]
      rw [ht]
      have := rtL_mem (d := d) (n := 2) (x := 2) (k := 4) (by omega) (by omega)
      refine ⟨fun h => by omega, fun h => by rw [h] at this; cases this⟩
    · have ht : twoI d = -1 := by unfold twoI; rw [if_neg (by omega), if_pos (by omega)]
      rw [ht]
      refine ⟨fun _ => ?_, fun _ => by omega⟩
      simp only [rtL]
      rw [if_neg (by omega), if_neg (by omega), if_neg (by omega), if_neg (by omega)]
  · have hpr := pr_of hp h
    rw [kro_odd hpr.2.1]
    unfold jacW
    rw [jac_neg hpr hle, ← rtA_root hpr.2.1 hd]
    exact Classical.not_not
/-- The prime ideals over a prime. -/
def poL (d p : Int) : List (Int × Int × Int) := if rtA d p = [] then [(p, 1, d % 2)] else trp 1 p (rtA d p)
def prR (d p : Int) : List (Int × Int × Int) := if fnB d && (decide (2 ≤ p ∧ p ≤ 97) && primeB p) then poL d p else []
theorem poL_len {d p : Int} (h2 : p ≤ 10000) : (poL d p).length ≤ 20001 := by
  unfold poL
  split
  · simp
  · rw [trp_len]
    have := rtL_len d p (2 * p).toNat
    unfold rtA
    omega
theorem prR_len (d p : Int) : (prR d p).length ≤ 1100000 := by
  unfold prR
  split
  · rename_i h
    simp at h
    have := poL_len (d := d) (p := p) (by omega)
    omega
  · simp
theorem Rw_one {B : Nat} {w : World} {x : Int × Int × Int} (hB : B ≤ w.heap.size) : Rw B 34 3 c3 (w.alloc (.cells (c3 x).toArray 34)) (.slice (some ⟨w.heap.size, 0, none⟩) 1 1) [x] := by
  exact ⟨rfl, .inr ⟨w.heap.size, 1, (c3 x).toArray, rfl, hB, heap_alloc_new w _, Nat.le_refl _, by decide, rfl, by simp [c3]⟩⟩
set_option maxRecDepth 100000 in
set_option maxHeartbeats 4000000 in
theorem piOver_any (d p : Int) (w : World) (d1 : -2000 ≤ d) (d2 : d ≤ 0) (n1 : 1 ≤ p) (n2 : p ≤ 10000) :
    Calls Try.prog 51 #[.int .i64 d, .int .i64 p] w fun en w' => ∃ v, en = .returned v ∧ Rw w.heap.size 34 3 c3 w' v (poL d p) ∧ Below w.heap.size w w' := by
  go_enter Try.func51, Try.ntmps51
  go_wp2
  go_loopw [5, 6] (fun v i wr => ∃ b : Nat, i = .int .i64 (b : Int) ∧ (b : Int) ≤ 2 * p ∧ Hid (Rw w.heap.size 34 3 c3 wr v (trp 1 p (rtL d p b))) ∧ Hid (Below w.heap.size w wr)) (fun _ i _ => (2 * p - intOf i).toNat)
  case atStart => exact ⟨0, rfl, by omega, Rw.nil _ _ _ _ _, Below.refl _ _⟩
  case round =>
    obtain ⟨b, rfl, hb2, hr2, hbb⟩ := hrel
    have hbz2 := hbb.out.size
    by_cases hbl : (b : Int) < 2 * p
    · have hs1 := sq_le_sq (show (0 : Int) ≤ (b : Int) by omega) (show (b : Int) ≤ 20000 by omega)
      have hs2 : (b : Int) * b ≤ 400000000 := by omega
      have hs3 := self_le_sq b
      clear hs1
      have hl := rtL_len d p b
      by_cases hc : ((b : Int) * b - d) % (4 * p) = 0
      · have HB2 : Hid (rtL d p (b + 1) = rtL d p b ++ [(b : Int)]) := by show _ = _; rw [rtL, if_pos hc]
        have hz2 : (((b : Int) * b - d) % (4 * p) == 0) = true := by simp [hc]
        have hlen : (trp 1 p (rtL d p b)).length ≤ 1000000 := by rw [trp_len]; omega
        clear hc
        go_wp2_with (at_builtin; go_loud (refine app_ideal (hr2.out.alloc _) (by rfl) _ _ _ (by rfl) (by kernel_rfl) (by rfl) _ (1, p, (b : Int)) (by rfl) (heap_alloc_new _ _) hlen (by simp; omega) ?_))
        intro v1' w1 hr1' hg1 hat1
        have hb1 : Below w.heap.size w w1 := below_of_grown (hbb.out.alloc hbb.out.size _) hg1 (by have := hbb.out.size; simp; omega) (fun g hg => (hr2.out.lt g hg).1)
        have HR1 := Lib.hid hr1'
        have HB := Lib.hid hb1
        clear hr1' hb1 hg1 hat1 hlen
        go_wp2
        go_roundw
        case rel =>
          go_light
          refine ⟨b + 1, by go_num, by omega, ?_, HB.out⟩
          show Rw _ _ _ _ _ _ _
          rw [HB2.out, trp_snoc]
          exact HR1.out
        case measure => simp [intOf]; omega
      · have HB2 : Hid (rtL d p (b + 1) = rtL d p b) := by show _ = _; rw [rtL, if_neg hc]
        have hz2 : (((b : Int) * b - d) % (4 * p) == 0) = false := by simp [hc]
        clear hc
        go_wp2
        go_roundw
        case rel =>
          go_light
          refine ⟨b + 1, by go_num, by omega, ?_, hbb.out⟩
          show Rw _ _ _ _ _ _ _
          rw [HB2.out]
          exact hr2.out
        case measure => simp [intOf]; omega
    · have HE2 : Hid (rtA d p = rtL d p b) := by show _ = _; unfold rtA; congr 1; omega
      obtain ⟨a, cap, rfl, hcap, _⟩ := hr2.out.sees c3_len
      by_cases hnil : rtL d p b = []
      · have HP : Hid (poL d p = [(p, 1, d % 2)]) := by show _ = _; rw [poL, HE2.out, if_pos hnil]
        have hz : (trp 1 p (rtL d p b)).length = 0 := by rw [hnil]; rfl
        generalize (trp 1 p (rtL d p b)).length = L at *
        subst hz
        clear hnil hr2
        go_wp2_with (go_at_call 44; refine (nuMod_any _ _ _ ⟨by omega, by omega⟩ (by omega) (by omega)).mono ?_; rintro e w' ⟨rfl, rfl⟩)
        go_ret
        rw [HP.out]
        exact ⟨_, rfl, Rw_one hbz2, hbb.out.alloc hbz2 _⟩
      · have HP : Hid (poL d p = trp 1 p (rtL d p b)) := by show _ = _; rw [poL, HE2.out, if_neg hnil]
        have hz : (trp 1 p (rtL d p b)).length ≠ 0 := by rw [trp_len]; intro h; exact hnil (List.eq_nil_of_length_eq_zero h)
        obtain ⟨L, hL⟩ : ∃ L, (trp 1 p (rtL d p b)).length = L := ⟨_, rfl⟩
        rw [hL] at hz
        have HL := Lib.hid hL
        rw [hL] at hr2 hcap ⊢
        clear hL hnil
        go_wp2
        go_ret
        refine ⟨_, rfl, ?_, hbb.out⟩
        rw [HP.out]
        exact hr2.out
set_option maxRecDepth 100000 in
set_option maxHeartbeats 4000000 in
theorem primeIdeals_any (d p : Int) (w : World) (d1 : -2000 ≤ d) (d2 : d ≤ 0) (hp : primeB p = true) (n2 : p ≤ 10000) (h4 : d % 4 < 2) :
    Calls Try.prog 53 #[.int .i64 d, .int .i64 p] w fun en w' => ∃ v, en = .returned v ∧ Rw w.heap.size 34 3 c3 w' v (poL d p) ∧ Below w.heap.size w w' := by
  have hp2 := primeB_ge hp
  obtain ⟨q, rfl⟩ : ∃ q : Nat, p = q := ⟨p.toNat, by omega⟩
  have hk := kro_neg hp (by omega) h4
  by_cases hnil : rtA d (q : Int) = []
  · have HP : Hid (poL d (q : Int) = [((q : Int), 1, d % 2)]) := by show _ = _; rw [poL, if_pos hnil]
    have hneg := hk.2 hnil
    have hcall : Hid (∀ w0, Calls Try.prog 74 #[.int .i64 d, .int .i64 (q : Int)] w0 fun en w' => en = .returned (.int .i64 (kro d q)) ∧ w0 = w') := fun w0 => kronecker_any d q w0 ⟨by omega, by omega⟩ (by omega) (by omega)
    generalize kro d q = z at *
    clear hnil hk hp
    go_enter Try.func53, Try.ntmps53
    go_wp2_with (first | (go_at_call 74; refine (hcall.out _).mono ?_; rintro e w' ⟨rfl, rfl⟩) | (go_at_call 78; refine (mod_any _ _ _ ⟨by omega, by omega⟩ (by omega) (by omega)).mono ?_; rintro e w' ⟨rfl, rfl⟩))
    go_ret
    rw [HP.out]
    exact ⟨_, rfl, Rw_one (Nat.le_refl _), (Below.refl _ _).alloc (Nat.le_refl _) _⟩
  · have HP : Hid (poL d (q : Int) = trp 1 (q : Int) (rtA d (q : Int))) := by show _ = _; rw [poL, if_neg hnil]
    have hneg : ¬ kro d q < 0 := fun h => hnil (hk.1 h)
    have hcall : Hid (∀ w0, Calls Try.prog 74 #[.int .i64 d, .int .i64 (q : Int)] w0 fun en w' => en = .returned (.int .i64 (kro d q)) ∧ w0 = w') := fun w0 => kronecker_any d q w0 ⟨by omega, by omega⟩ (by omega) (by omega)
    have hroots : Hid (∀ w0, Calls Try.prog 39 #[.int .i64 d, .int .i64 (q : Int)] w0 fun en w' => ∃ v, en = .returned v ∧ Rw w0.heap.size 3 1 c1 w' v (rtA d (q : Int)) ∧ Below w0.heap.size w0 w') := fun w0 => roots_any d _ w0 d1 d2 (by omega) n2
    have hlr := rtL_len d (q : Int) (2 * (q : Int)).toNat
    change (rtA d (q : Int)).length ≤ _ at hlr
    obtain ⟨m, hm⟩ : ∃ m, (rtA d (q : Int)).length = m := ⟨_, rfl⟩
    rw [hm] at hlr
    have HLR : Hid (m ≤ 20000) := Lib.hid (by omega)
    have HM := Lib.hid hm
    clear hm hlr hnil hk hp
    generalize kro d q = z at *
    go_enter Try.func53, Try.ntmps53
    go_wp2_with (go_at_call 74; refine (hcall.out _).mono ?_; rintro e w' ⟨rfl, rfl⟩)
    refine (hroots.out _).mono ?_
    rintro e1 w1 ⟨vd, rfl, hrd, hB1⟩
    have hz1 := hB1.size
    obtain ⟨ad, kd, hvd, hkd, _, _⟩ := hrd.sees c1_len
    rw [HM.out] at hvd hkd
    subst hvd
    have RD := Lib.hid hrd
    have HB1 := Lib.hid (((Below.refl w.heap.size w).alloc (Nat.le_refl _) (.cells #[] 34)).trans (hB1.mono (by simp)))
    have hzw : w.heap.size + 1 ≤ w1.heap.size := by simpa using hz1
    have HR0 : Hid (Rw w.heap.size 34 3 c3 w1 (.slice (some ⟨w.heap.size, 0, none⟩) 0 0) []) := Lib.hid ((Rw.empty (Nat.le_refl _)).later hB1)
    have HAP : Hid (Ap (.slice (some ⟨w.heap.size, 0, none⟩) 0 0) (.slice ad m kd)) := Lib.hid (fun g h1 h2 => by have q1 := (HR0.out.lt g h1).2; have q2 := (hrd.lt g h2).1; simp at q2; simp [Value.ownBlock] at h1; omega)
    clear hrd hB1 hkd
    go_wp2
    go_loopw [5, 22] (fun v i wr => ∃ j : Nat, i = .int .i64 (j : Int) ∧ j ≤ m ∧ Hid (Rw w.heap.size 34 3 c3 wr v (trp 1 (q : Int) ((rtA d (q : Int)).take j))) ∧ Hid (Rw (w.heap.size + 1) 3 1 c1 wr (.slice ad m kd) (rtA d (q : Int))) ∧ Hid (Ap v (.slice ad m kd)) ∧ Hid (Below w.heap.size w wr)) (fun _ i _ => m - (intOf i).toNat)
    case atStart =>
      refine ⟨0, rfl, by omega, ?_, ?_, HAP.out, HB1.out⟩
      · show Rw _ _ _ _ _ _ _
        simpa [trp] using HR0.out
      · show Rw _ _ _ _ _ _ _
        simpa using RD.out
    case round =>
      obtain ⟨j, rfl, hjm, hr2, hrd, hap, hbb⟩ := hrel
      have hbz2 := hbb.out.size
      by_cases hjl : j < m
      · have hmb := HLR.out
        obtain ⟨x, hx⟩ := get_some HM.out hjl
        have HX : Hid ((rtA d (q : Int)).take (j + 1) = (rtA d (q : Int)).take j ++ [x]) := by show _ = _; rw [List.take_add_one, hx]; rfl
        have hcx : ∃ g, ad = some ⟨g, 0, none⟩ ∧ wr.cell? ⟨g, j, none⟩ = some (.int .i64 x) := by
          rcases (hrd.out.seen c1_len).1 with h0 | ⟨g, rfl, _, _, hcell, _⟩
          · have := HM.out; omega
          · exact ⟨g, rfl, by have := hcell j x hx 0 (by omega); simpa [c1] using this⟩
        obtain ⟨g, rfl, hcx⟩ := hcx
        have hlen : (trp 1 (q : Int) ((rtA d (q : Int)).take j)).length ≤ 1000000 := by
          have h2 := HLR.out
          have h3 := HM.out
          rw [trp_len, List.length_take]; omega
        clear hx
        go_wp2_with (at_builtin; go_loud (refine app_ideal (hr2.out.alloc _) (by rfl) _ _ _ (by rfl) (by kernel_rfl) (by rfl) _ (1, (q : Int), x) (by rfl) (heap_alloc_new _ _) hlen (by simp; omega) ?_))
        intro v1' w2 hr1' hg1 hat1
        have hrd' : Rw (w.heap.size + 1) 3 1 c1 w2 _ (rtA d (q : Int)) := ((hrd.out.alloc _).apart hg1 hap.out.nel)
        have hap1 := hap.out.app hat1 (fun g hg => by have := (hrd.out.lt g hg).2; simp; omega)
        have hb1 : Below w.heap.size w w2 := below_of_grown (hbb.out.alloc hbb.out.size _) hg1 (by have := hbb.out.size; simp; omega) (fun g hg => (hr2.out.lt g hg).1)
        have HR2 := Lib.hid hr1'
        have HRD := Lib.hid hrd'
        have HA := Lib.hid hap1
        have HB := Lib.hid hb1
        clear hr1' hrd' hap1 hb1 hg1 hat1 hlen
        go_wp2
        go_roundw
        case rel =>
          go_light
          refine ⟨j + 1, by go_num, by omega, ?_, HRD.out, HA.out, HB.out⟩
          show Rw _ _ _ _ _ _ _
          rw [HX.out, trp_snoc]
          exact HR2.out
        case measure => simp [intOf]; omega
      · have HE2 : Hid ((rtA d (q : Int)).take j = rtA d (q : Int)) := by show _ = _; rw [List.take_of_length_le]; rw [HM.out]; omega
        go_wp2
        go_ret
        refine ⟨_, rfl, ?_, hbb.out⟩
        rw [HP.out, ← HE2.out]
        exact hr2.out
theorem fnB_res {d : Int} (h : fnB d = true) : d % 4 < 2 := by
  obtain ⟨_, _, h3⟩ := negB_true (fnB_neg h)
  omega
theorem specPrimeIdeals_any (d p : Int) (w : World) (hd : I64 d) :
    Calls Try.prog 25 #[.int .i64 d, .int .i64 p] w fun en w' => ∃ v, en = .returned (.tuple #[v, .bool (fnB d && (decide (2 ≤ p ∧ p ≤ 97) && primeB p))]) ∧ Rw w.heap.size 34 3 c3 w' v (prR d p) ∧ Below w.heap.size w w' := by
  cases c : fnB d with
  | false =>
    have HR : Hid (prR d p = []) := by show _ = _; rw [prR, c, Bool.false_and, if_neg (by decide)]
    rw [HR.out, Bool.false_and]
    go_enter Try.func25, Try.ntmps25
    go_wp2_with (first | (go_at_call 35; refine (piDisc_any _ _ hd).mono ?_; rintro e w' ⟨rfl, rfl⟩))
    go_ret2
    exact ⟨_, rfl, Rw.nil _ _ _ _ _, Below.refl _ _⟩
  | true =>
    obtain ⟨m1, m2, _⟩ := negB_true (fnB_neg c)
    by_cases cn : 2 ≤ p ∧ p ≤ 97
    · have hin : inB p 2 97 = true := by unfold inB; exact decide_eq_true cn
      have cn1 := cn.1
      have cn2 := cn.2
      rw [decide_eq_true cn, Bool.true_and, Bool.true_and]
      cases cp : primeB p with
      | true =>
        have HR : Hid (prR d p = poL d p) := by show _ = _; rw [prR, c, decide_eq_true cn, cp, if_pos (by decide)]
        rw [HR.out]
        clear cn
        go_enter Try.func25, Try.ntmps25
        go_wp2_with (first | (go_at_call 35; refine (piDisc_any _ _ hd).mono ?_; rintro e w' ⟨rfl, rfl⟩) | (go_at_call 36; refine (l1In_any _ _ _ _).mono ?_; rintro e w' ⟨rfl, rfl⟩) | (go_at_call 50; refine (nuPrime_any _ _ (by omega)).mono ?_; rintro e w' ⟨rfl, rfl⟩) | (go_at_call 51; refine (piOver_any d p _ m1 (by omega) (by omega) (by omega)).mono ?_; rintro e w' ⟨v, rfl, hr, hB⟩))
        go_ret2
        exact ⟨_, rfl, hr, hB⟩
      | false =>
        have HR : Hid (prR d p = []) := by show _ = _; rw [prR, cp, Bool.and_false, Bool.and_false, if_neg (by decide)]
        rw [HR.out]
        clear cn
        go_enter Try.func25, Try.ntmps25
        go_wp2_with (first | (go_at_call 35; refine (piDisc_any _ _ hd).mono ?_; rintro e w' ⟨rfl, rfl⟩) | (go_at_call 36; refine (l1In_any _ _ _ _).mono ?_; rintro e w' ⟨rfl, rfl⟩) | (go_at_call 50; refine (nuPrime_any _ _ (by omega)).mono ?_; rintro e w' ⟨rfl, rfl⟩))
        go_ret2
        exact ⟨_, rfl, Rw.nil _ _ _ _ _, Below.refl _ _⟩
    · have hin : inB p 2 97 = false := by unfold inB; exact decide_eq_false cn
      have HR : Hid (prR d p = []) := by show _ = _; rw [prR, decide_eq_false cn, Bool.false_and, Bool.and_false, if_neg (by decide)]
      rw [HR.out, decide_eq_false cn, Bool.false_and, Bool.and_false]
      go_enter Try.func25, Try.ntmps25
      go_wp2_with (first | (go_at_call 35; refine (piDisc_any _ _ hd).mono ?_; rintro e w' ⟨rfl, rfl⟩) | (go_at_call 36; refine (l1In_any _ _ _ _).mono ?_; rintro e w' ⟨rfl, rfl⟩))
      go_ret2
      exact ⟨_, rfl, Rw.nil _ _ _ _ _, Below.refl _ _⟩
theorem implPrimeIdeals_any (d p : Int) (w : World) (hd : I64 d) :
    Calls Try.prog 26 #[.int .i64 d, .int .i64 p] w fun en w' => ∃ v, en = .returned (.tuple #[v, .bool (fnB d && (decide (2 ≤ p ∧ p ≤ 97) && primeB p))]) ∧ Rw w.heap.size 34 3 c3 w' v (prR d p) ∧ Below w.heap.size w w' := by
  cases c : fnB d with
  | false =>
    have HR : Hid (prR d p = []) := by show _ = _; rw [prR, c, Bool.false_and, if_neg (by decide)]
    rw [HR.out, Bool.false_and]
    go_enter Try.func26, Try.ntmps26
    go_wp2_with (first | (go_at_call 38; refine (isFundNeg_any _ _ hd).mono ?_; rintro e w' ⟨rfl, rfl⟩))
    go_ret2
    exact ⟨_, rfl, Rw.empty (Nat.le_refl _), (Below.refl _ _).alloc (Nat.le_refl _) _⟩
  | true =>
    obtain ⟨m1, m2, _⟩ := negB_true (fnB_neg c)
    have h4 := fnB_res c
    by_cases c97 : 97 < p
    · have HR : Hid (prR d p = []) := by show _ = _; rw [prR, decide_eq_false (by omega), Bool.false_and, Bool.and_false, if_neg (by decide)]
      rw [HR.out, decide_eq_false (by omega), Bool.false_and, Bool.and_false]
      go_enter Try.func26, Try.ntmps26
      go_wp2_with (first | (go_at_call 38; refine (isFundNeg_any _ _ hd).mono ?_; rintro e w' ⟨rfl, rfl⟩))
      go_ret2
      exact ⟨_, rfl, Rw.empty (Nat.le_refl _), (Below.refl _ _).alloc (Nat.le_refl _) _⟩
    · cases cp : primeB p with
      | true =>
        have hp2 := primeB_ge cp
        have HR : Hid (prR d p = poL d p) := by show _ = _; rw [prR, c, decide_eq_true ⟨hp2, by omega⟩, cp, if_pos (by decide)]
        rw [HR.out, decide_eq_true ⟨hp2, by omega⟩]
        have hcall : Hid (∀ w0, Calls Try.prog 53 #[.int .i64 d, .int .i64 p] w0 fun en w' => ∃ v, en = .returned v ∧ Rw w0.heap.size 34 3 c3 w' v (poL d p) ∧ Below w0.heap.size w0 w') := fun w0 => primeIdeals_any d p w0 m1 (by omega) cp (by omega) h4
        go_enter Try.func26, Try.ntmps26
        go_wp2_with (first | (go_at_call 38; refine (isFundNeg_any _ _ hd).mono ?_; rintro e w' ⟨rfl, rfl⟩) | (go_at_call 52; refine (isPrime_any _ _ (by omega)).mono ?_; rintro e w' ⟨rfl, rfl⟩) | (go_at_call 53; refine (hcall.out _).mono ?_; rintro e w' ⟨v, rfl, hr, hB⟩))
        go_ret2
        exact ⟨_, rfl, hr, hB⟩
      | false =>
        have HR : Hid (prR d p = []) := by show _ = _; rw [prR, cp, Bool.and_false, Bool.and_false, if_neg (by decide)]
        rw [HR.out, Bool.and_false, Bool.and_false]
        go_enter Try.func26, Try.ntmps26
        go_wp2_with (first | (go_at_call 38; refine (isFundNeg_any _ _ hd).mono ?_; rintro e w' ⟨rfl, rfl⟩) | (go_at_call 52; refine (isPrime_any _ _ (by omega)).mono ?_; rintro e w' ⟨rfl, rfl⟩))
        go_ret2
        exact ⟨_, rfl, Rw.empty (Nat.le_refl _), (Below.refl _ _).alloc (Nat.le_refl _) _⟩
set_option maxRecDepth 100000 in
set_option maxHeartbeats 4000000 in
theorem law_primeIdeals (d p : Int) (w : World) (hd : I64 d) (_ : I64 p) :
    Calls Try.prog 7 #[.int .i64 d, .int .i64 p] w fun en w' => en = .returned (.bool true) ∧ Below w.heap.size w w' := by
  have hlen : (prR d p).length ≤ 1100000 := prR_len d p
  obtain ⟨n', hn'⟩ : ∃ n', (prR d p).length = n' := ⟨_, rfl⟩
  rw [hn'] at hlen
  have HN := Lib.hid hn'
  clear hn'
  go_enter Try.func7, Try.ntmps7
  go_wp2_with fail
  refine (specPrimeIdeals_any d p _ hd).mono ?_
  rintro e1 w1 ⟨v0, rfl, hr0, hB1⟩
  have hz1 := hB1.size
  obtain ⟨a0, k0, hv0, hk0, _, hs0⟩ := hr0.sees c3_len
  rw [HN.out] at hv0 hk0
  subst hv0
  clear hk0
  have R0 := Lib.hid hr0
  have S0 := Lib.hid hs0
  have B1 := Lib.hid hB1
  clear hr0 hs0 hB1
  go_wp2_with fail
  refine (implPrimeIdeals_any d p _ hd).mono ?_
  rintro e2 w2 ⟨v1, rfl, hr1, hB2⟩
  have hz2 := hB2.size
  obtain ⟨a1, k1, hv1, hk1, _, hs1⟩ := hr1.sees c3_len
  rw [HN.out] at hv1 hk1
  subst hv1
  clear hk1
  have R1 := Lib.hid hr1
  have S1 := Lib.hid hs1
  have B2 := Lib.hid hB2
  clear hr1 hs1 hB2
  go_wp2_with fail
  refine (eqIdealS_same _ _ _ _ _ _ _ _ _ HN.out S1.out (S0.out.below B2.out) hlen).mono ?_
  rintro e3 w3 ⟨rfl, hB3⟩
  have hz3 := hB3.size
  have B3 := Lib.hid hB3
  clear hB3
  go_wp2_with fail
  refine (markIdealS_any w1.heap.size n' _ _ 1 _ HN.out (R1.out.later B3.out) hlen (by omega) (by omega)).mono ?_
  rintro e4 w4 ⟨rfl, hM, hg4⟩
  have hz4 := hg4.size
  have hap : (Value.slice a0 n' k0).ownBlock = none ∨ (Value.slice a0 n' k0).ownBlock ≠ (Value.slice a1 n' k1).ownBlock := by
    cases h0 : (Value.slice a0 n' k0).ownBlock with
    | none => exact .inl rfl
    | some g =>
      right
      intro h1
      have q1 := (R0.out.lt g h0).2
      have q2 := (R1.out.lt g h1.symm).1
      omega
  have hr04 : Rw w.heap.size 34 3 c3 w4 (.slice a0 n' k0) (prR d p) := ((R0.out.later B2.out).later B3.out).apart hg4 hap
  have hB4 : Below w.heap.size w w4 := below_of_grown (B1.out.trans ((B2.out.mono hz1).trans (B3.out.mono (by omega)))) hg4 (by omega) (fun g hg => by have := (R1.out.lt g hg).1; omega)
  obtain ⟨am, km, hem, hms⟩ := hM.sees
  simp only [Value.slice.injEq] at hem
  obtain ⟨rfl, -, rfl⟩ := hem
  have R04 := Lib.hid hr04
  have B4 := Lib.hid hB4
  have M4 := Lib.hid hM
  have N4 := Lib.hid hms
  clear hr04 hB4 hM hms hg4 hap
  go_wp2_with fail
  refine (heldIdealS_any n' _ _ 1 _ N4.out hlen (by omega) (by omega)).mono ?_
  rintro e5 w5 ⟨rfl, hB5⟩
  have hz5 := hB5.size
  have B5 := Lib.hid hB5
  clear hB5
  go_wp2_with fail
  refine (implPrimeIdeals_any d p _ hd).mono ?_
  rintro e6 w6 ⟨v2, rfl, hr2, hB6⟩
  have hz6 := hB6.size
  obtain ⟨a2, k2, hv2, hk2, _, hs2⟩ := hr2.sees c3_len
  rw [HN.out] at hv2 hk2
  subst hv2
  clear hk2
  have R2 := Lib.hid hr2
  have S2 := Lib.hid hs2
  have B6 := Lib.hid hB6
  clear hr2 hs2 hB6
  go_wp2_with fail
  refine (eqIdealS_same _ _ _ _ _ _ _ _ _ HN.out S2.out (((R04.out.seen c3_len).1.below B5.out).below B6.out) hlen).mono ?_
  rintro e7 w7 ⟨rfl, hB7⟩
  have hz7 := hB7.size
  have B7 := Lib.hid hB7
  clear hB7
  go_wp2_with fail
  refine (heldIdealS_any n' _ _ 1 _ (((N4.out.below B5.out).below B6.out).below B7.out) hlen (by omega) (by omega)).mono ?_
  rintro e8 w8 ⟨rfl, hB8⟩
  have hz8 := hB8.size
  have B8 := Lib.hid hB8
  clear hB8
  go_wp2
  go_ret
  refine ⟨rfl, ?_⟩
  exact B4.out.trans ((B5.out.mono (by omega)).trans ((B6.out.mono (by omega)).trans ((B7.out.mono (by omega)).trans (B8.out.mono (by omega)))))
end Go.Proofs.Ytladcjoiaoaedaa
