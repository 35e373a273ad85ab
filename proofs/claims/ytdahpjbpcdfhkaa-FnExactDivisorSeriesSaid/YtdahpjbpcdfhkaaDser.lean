/-
  DivisorSeries: both ways, and the law.
-/
import Derived.Test.YtdahpjbpcdfhkaaFil
import Derived.Test.YtdahpjbpcdfhkaaDiv
import Derived.Test.YtdahpjbpcdfhkaaKro
import Derived.Test.YtdahpjbpcdfhkaaDisc
namespace Go.Proofs.Ytdahpjbpcdfhkaa
open Go.RowKit
attribute [local simp, local go_sem] past_cell past_frozen past_tape
def dS (d : Int) (i : Nat) : Nat → Int
  | 0 => 0
  | E + 1 => dS d i E + (if i % (E + 1) = 0 then kro d (E + 1) else 0)
def dsV (d : Int) (i : Nat) : Int := if i = 0 then 0 else dS d i i
theorem dS_bd (d : Int) (i E : Nat) : -(E : Int) ≤ dS d i E ∧ dS d i E ≤ E := by
  induction E with
  | zero => simp [dS]
  | succ E ih =>
    obtain ⟨b1, b2⟩ := kro_bd d (E + 1)
    unfold dS
    split <;> omega
theorem dS_stop {d : Int} {i : Nat} (hi : i ≠ 0) (m : Nat) : dS d i (i + m) = dS d i i := by
  induction m with
  | zero => rfl
  | succ m ih =>
    rw [show i + (m + 1) = (i + m) + 1 by omega, dS, if_neg (by rw [Nat.mod_eq_of_lt (by omega)]; exact hi), ih]
    omega
def krS (d : Int) (l : List Int) : Int := l.foldl (fun s e => s + kro d e.toNat) 0
theorem krS_snoc (d x : Int) (l : List Int) : krS d (l ++ [x]) = krS d l + kro d x.toNat := by simp [krS]
theorem krS_bd (d : Int) (l : List Int) : -(l.length : Int) ≤ krS d l ∧ krS d l ≤ l.length := by
  have key : ∀ (l : List Int) (s : Int), s - l.length ≤ l.foldl (fun s e => s + kro d e.toNat) s ∧ l.foldl (fun s e => s + kro d e.toNat) s ≤ s + l.length := by
    intro l
    induction l with
    | nil => intro s; simp
    | cons x l ih =>
      intro s
      obtain ⟨b1, b2⟩ := kro_bd d x.toNat
      obtain ⟨h1, h2⟩ := ih (s + kro d x.toNat)
      simp only [List.foldl_cons, List.length_cons]
      omega
  have := key l 0
  unfold krS
  omega
/-- The divisors in order. -/
def dvN (m : Nat) : List Int := ((List.range m).map fun k : Nat => (k : Int) + 1).filter fun e => decide ((m : Int) % e = 0)
theorem divL_order : ∀ m : Fin 101, divL (m.val : Int) = dvN m.val := by decide +kernel
theorem krS_dvN (d : Int) (m : Nat) : ∀ E, krS d (((List.range E).map fun k : Nat => (k : Int) + 1).filter fun e => decide ((m : Int) % e = 0)) = dS d m E := by
  intro E
  induction E with
  | zero => rfl
  | succ E ih =>
    rw [List.range_succ, List.map_append, List.filter_append]
    unfold dS
    by_cases h : m % (E + 1) = 0
    · have h' : (m : Int) % ((E : Int) + 1) = 0 := by
        have : ((m % (E + 1) : Nat) : Int) = 0 := by rw [h]; rfl
        rw [Int.natCast_emod] at this
        exact this
      simp only [List.map_cons, List.map_nil, List.filter_cons, List.filter_nil, h', decide_true, if_true]
      rw [krS_snoc, ih, if_pos h]
      congr 1
    · have h' : ¬ (m : Int) % ((E : Int) + 1) = 0 := by
        intro h0
        apply h
        have : ((m % (E + 1) : Nat) : Int) = 0 := by rw [Int.natCast_emod]; exact h0
        omega
      simp only [List.map_cons, List.map_nil, List.filter_cons, List.filter_nil, h', decide_false]
      simp [ih, h]
theorem krS_div (d : Int) {m : Nat} (h : m ≤ 100) : krS d (divL (m : Int)) = dS d m m := by
  rw [divL_order ⟨m, by omega⟩]
  exact krS_dvN d m m
def dsrL (d n : Int) : List Int := fnL (n + 1).toNat (dsV d)
def dsrR (d n : Int) : List Int := if negB d && decide (0 ≤ n ∧ n ≤ 100) then dsrL d n else []
theorem dsrR_len (d n : Int) : (dsrR d n).length ≤ 1100000 := by
  unfold dsrR
  split
  · rename_i h
    simp at h
    simp [dsrL, fnL_len]
    omega
  · simp
set_option maxRecDepth 100000 in
set_option maxHeartbeats 2000000 in
theorem thDivisor_any (d : Int) (m : Nat) (w : World) (hd : Bd 1000000 d) (h1 : 1 ≤ m) (h2 : m ≤ 100) : Calls Try.prog 44 #[.int .i64 d, .int .i64 (m : Int)] w fun en w' => en = .returned (.int .i64 (dS d m m)) ∧ Below w.heap.size w w' := by
  have HE := Lib.hid (krS_div d h2)
  have hDL : (divL (m : Int)).length ≤ 200 := by
    have h1 := lowD_len (m : Int) (m : Int).toNat
    have h2 := highD_len (m : Int) (m : Int).toNat
    unfold divL
    simp at h1 h2 ⊢
    omega
  obtain ⟨q, hq⟩ : ∃ q, (divL (m : Int)).length = q := ⟨_, rfl⟩
  rw [hq] at hDL
  have HM := Lib.hid hq
  clear hq
  go_enter Try.func44, Try.ntmps44
  go_wp2_with fail
  refine (nuDivisors_any _ _ (by omega) (by omega)).mono ?_
  rintro e1 w1 ⟨vd, rfl, hrd, hB1⟩
  have hz1 := hB1.size
  obtain ⟨ad, kd, hvd, hkd, _, _⟩ := hrd.sees c1_len
  rw [HM.out] at hvd hkd
  subst hvd
  clear hkd
  have RD := Lib.hid hrd
  have B1 := Lib.hid hB1
  clear hrd hB1
  go_wp2
  go_loopw [5, 11] (fun v i wr => ∃ k : Nat, k ≤ q ∧ i = .int .i64 (k : Int) ∧ v = .int .i64 (krS d ((divL (m : Int)).take k)) ∧ Hid (Below w1.heap.size w1 wr)) (fun _ i _ => q - (intOf i).toNat)
  case atStart => exact ⟨0, by omega, rfl, rfl, Below.refl _ _⟩
  case round =>
    obtain ⟨k, hk, rfl, rfl, hb⟩ := hrel
    have hbz := hb.out.size
    have hbd := krS_bd d ((divL (m : Int)).take k)
    have hlk : ((divL (m : Int)).take k).length ≤ 200 := by have := HM.out; rw [List.length_take]; omega
    by_cases hkm : k < q
    · obtain ⟨x, hx⟩ := get_some HM.out hkm
      obtain ⟨x1, x2, _⟩ := mem_divL (by omega) (List.mem_of_getElem? hx)
      have HX : Hid (krS d ((divL (m : Int)).take (k + 1)) = krS d ((divL (m : Int)).take k) + kro d x.toNat) := by
        show _ = _
        rw [List.take_add_one, hx]
        exact krS_snoc _ _ _
      obtain ⟨b1, b2⟩ := kro_bd d x.toNat
      have hcx : ∃ g, ad = some ⟨g, 0, none⟩ ∧ wr.cell? ⟨g, k, none⟩ = some (.int .i64 x) := by
        rcases ((RD.out.later hb.out).seen c1_len).1 with h0 | ⟨g, rfl, _, _, hcell, _⟩
        · have := HM.out; omega
        · exact ⟨g, rfl, by have := hcell k x hx 0 (by omega); simpa [c1] using this⟩
      obtain ⟨g, rfl, hcx⟩ := hcx
      have hcall : Hid (∀ w0, Calls Try.prog 38 #[.int .i64 d, .int .i64 x] w0 fun en w' => en = .returned (.int .i64 (kro d x.toNat)) ∧ Below w0.heap.size w0 w') := by
        show ∀ w0, _
        intro w0
        have := syKronecker_any d x.toNat w0 hd (by omega) (by omega)
        rwa [show ((x.toNat : Nat) : Int) = x by omega] at this
      clear hx
      generalize krS d ((divL (m : Int)).take k) = s at *
      generalize kro d x.toNat = r at *
      go_wp2_with fail
      refine (hcall.out _).mono ?_
      rintro e wa ⟨rfl, hBa⟩
      have hb2 := Lib.hid (hb.out.trans (hBa.mono hbz))
      clear hBa
      go_wp2
      go_roundw
      case rel =>
        go_light
        exact ⟨k + 1, by omega, by go_num, by rw [HX.out], hb2.out⟩
      case measure => simp [intOf]; omega
    · have hk' : k = q := by omega
      subst hk'
      have HT : Hid ((divL (m : Int)).take k = divL (m : Int)) := by show _ = _; rw [List.take_of_length_le]; rw [HM.out]; exact Nat.le_refl _
      rw [HT.out, HE.out]
      go_wp2
      go_ret
      exact ⟨rfl, B1.out.trans (hb.out.mono hz1)⟩
theorem isTerms_any (n : Int) (w : World) : Calls Try.prog 45 #[.int .i64 n] w fun en w' => en = .returned (.bool (decide (0 ≤ n ∧ n ≤ 100))) ∧ w = w' := by
  go_enter Try.func45, Try.ntmps45
  go_wp2
  all_goals
    go_ret
    refine ⟨ret_bool ?_, rfl⟩
    (first | (symm; apply decide_eq_true; omega) | (symm; apply decide_eq_false; omega) | (rw [decide_eq_decide]; omega) | (simp; omega) | (simp; intros; omega))
theorem thTerms_any (n : Int) (w : World) : Calls Try.prog 43 #[.int .i64 n] w fun en w' => en = .returned (.bool (decide (0 ≤ n ∧ n ≤ 100))) ∧ w = w' := by
  go_enter Try.func43, Try.ntmps43
  go_wp2_with (go_at_call 56; refine (l1In_any _ _ _ _).mono ?_; rintro e w' ⟨rfl, rfl⟩)
  go_ret
  exact ⟨rfl, rfl⟩
set_option maxRecDepth 100000 in
set_option maxHeartbeats 4000000 in
theorem specDser_yes (d n : Int) (w : World) (hd : I64 d) (hn : negB d = true) (n1 : 0 ≤ n) (n2 : n ≤ 100) :
    Calls Try.prog 20 #[.int .i64 d, .int .i64 n] w fun en w' => ∃ v, en = .returned (.tuple #[v, .bool true]) ∧ Rw w.heap.size 3 1 c1 w' v (dsrL d n) ∧ Below w.heap.size w w' := by
  obtain ⟨d1, d2, _⟩ := negB_true hn
  have hin : decide (0 ≤ n ∧ n ≤ 100) = true := decide_eq_true ⟨n1, n2⟩
  obtain ⟨N, rfl⟩ : ∃ N : Nat, n = N := ⟨n.toNat, by omega⟩
  obtain ⟨i, hi1, hiz, hisz, hiby⟩ := info_parts (P := Try.prog) (e := 3) (z := .int .i64 0) (size := 1) (bytes := 8) (by kernel_rfl)
  go_enter Try.func20, Try.ntmps20
  go_wp2_with (first | (go_at_call 31; refine (reDisc_any _ _ hd).mono ?_; rintro e w' ⟨rfl, rfl⟩) | (go_at_call 43; refine (thTerms_any _ _).mono ?_; rintro e w' ⟨rfl, rfl⟩) | (at_make; refine wpList_make_full _ rfl _ _ _ rfl w.heap.size 3 i (.int .i64 0) 1 (by kernel_rfl) hi1 hiz hisz .i64 .i64 _ _ (N + 1) rfl rfl (by omega) (by omega) (by rw [hiby]; omega) (by unfold maxLen; omega) (Nat.le_refl _) ?_; intro wm hown hgrow))
  have hF := Lib.hid (Fil.made hown)
  have hB := Lib.hid (Below.grown (Below.refl _ _) hgrow (Nat.le_refl _) (fun k hk => by cases hk) : Below w.heap.size w wm)
  clear hown hgrow hin
  go_wp2
  go_loopw [7] (fun i wr => ∃ k : Nat, i = .int .i64 (k : Int) ∧ 1 ≤ k ∧ k ≤ N + 1 ∧ Hid (Fil w.heap.size wr w.heap.size (N + 1) (fun j => if j < k then dsV d j else 0)) ∧ Hid (Below w.heap.size w wr)) (fun i _ => (N + 1 - (intOf i).toNat))
  case atStart =>
    refine ⟨1, rfl, by omega, by omega, ?_, hB.out⟩
    show Fil _ _ _ _ _
    refine hF.out.congr fun j hj => ?_
    split
    · obtain rfl : j = 0 := by omega
      rfl
    · rfl
  case round =>
    obtain ⟨k, rfl, hk1, hk2, hf, hb⟩ := hrel
    have hbz := hb.out.size
    have hglt := hf.out.lt.2
    by_cases hlt : k ≤ N
    · go_wp2_with fail
      refine (thDivisor_any d k _ ⟨by omega, by omega⟩ hk1 (by omega)).mono ?_
      rintro e wa ⟨rfl, hBa⟩
      have hf2 := hf.out.later hBa
      have hb2 := Lib.hid (hb.out.trans (hBa.mono (by omega)))
      have hc := hf2.cell (j := k) (by omega)
      have hfr := hf2.frozen k
      have HF := Lib.hid (hf2.set k (dS d k k))
      clear hf2 hBa
      go_wp2
      go_roundw
      case rel =>
        go_light
        refine ⟨k + 1, by go_num, by omega, by omega, ?_, ?_⟩
        · show Fil _ _ _ _ _
          refine HF.out.congr fun j hj => ?_
          by_cases hjk : j = k
          · subst hjk
            rw [if_pos rfl, if_pos (by omega), dsV, if_neg (by omega)]
          · rw [if_neg hjk]
            by_cases hj2 : j < k
            · rw [if_pos hj2, if_pos (by omega)]
            · rw [if_neg hj2, if_neg (by omega)]
        · show Below _ _ _
          exact hb2.out.setCell (Nat.le_refl _) _
      case measure => simp [intOf]; omega
    · have hk' : k = N + 1 := by omega
      subst hk'
      go_wp2
      go_ret2
      refine ⟨_, rfl, ?_, hb.out⟩
      have := hf.out.congr (f' := dsV d) fun j hj => by rw [if_pos hj]
      unfold Fil at this
      unfold dsrL
      rwa [show ((N : Int) + 1).toNat = N + 1 by omega]
/-- What a cell holds in the midst of the program's rounds. -/
def dsM (d : Int) (e m j : Nat) : Int := if j = 0 then 0 else dS d j e + (if j % (e + 1) = 0 ∧ j < m then kro d (e + 1) else 0)
theorem dsM_hit {d : Int} {e m j : Nat} (h0 : j ≠ 0) (h1 : j % (e + 1) = 0) (h2 : j < m) : dsM d e m j = dS d j e + kro d (e + 1) := by unfold dsM; rw [if_neg h0, if_pos ⟨h1, h2⟩]
theorem dsM_bd (d : Int) (e m j : Nat) (he : e ≤ 100) : -101 ≤ dsM d e m j ∧ dsM d e m j ≤ 101 := by
  obtain ⟨h1, h2⟩ := dS_bd d j e
  obtain ⟨b1, b2⟩ := kro_bd d (e + 1)
  unfold dsM
  split
  · omega
  · split <;> omega
set_option maxRecDepth 100000 in
set_option maxHeartbeats 4000000 in
theorem implDser_yes (d n : Int) (w : World) (hd : I64 d) (hn : negB d = true) (n1 : 0 ≤ n) (n2 : n ≤ 100) :
    Calls Try.prog 21 #[.int .i64 d, .int .i64 n] w fun en w' => ∃ v, en = .returned (.tuple #[v, .bool true]) ∧ Rw w.heap.size 3 1 c1 w' v (dsrL d n) ∧ Below w.heap.size w w' := by
  obtain ⟨d1, d2, _⟩ := negB_true hn
  have hin : decide (0 ≤ n ∧ n ≤ 100) = true := decide_eq_true ⟨n1, n2⟩
  obtain ⟨N, rfl⟩ : ∃ N : Nat, n = N := ⟨n.toNat, by omega⟩
  obtain ⟨i, hi1, hiz, hisz, hiby⟩ := info_parts (P := Try.prog) (e := 3) (z := .int .i64 0) (size := 1) (bytes := 8) (by kernel_rfl)
  go_enter Try.func21, Try.ntmps21
  go_wp2_with (first | (go_at_call 34; refine (isNegativeDisc_any _ _ hd).mono ?_; rintro e w' ⟨rfl, rfl⟩) | (go_at_call 45; refine (isTerms_any _ _).mono ?_; rintro e w' ⟨rfl, rfl⟩) | (at_make; refine wpList_make_full _ rfl _ _ _ rfl w.heap.size 3 i (.int .i64 0) 1 (by kernel_rfl) hi1 hiz hisz .i64 .i64 _ _ (N + 1) rfl rfl (by omega) (by omega) (by rw [hiby]; omega) (by unfold maxLen; omega) (Nat.le_refl _) ?_; intro wm hown hgrow))
  have hF := Lib.hid (Fil.made hown)
  have hB := Lib.hid (Below.grown (Below.refl _ _) hgrow (Nat.le_refl _) (fun k hk => by cases hk) : Below w.heap.size w wm)
  clear hown hgrow hin
  go_wp2
  go_loopw [7] (fun i wr => ∃ e : Nat, i = .int .i64 ((e : Int) + 1) ∧ e ≤ N ∧ Hid (Fil w.heap.size wr w.heap.size (N + 1) (fun j => dsM d e 0 j)) ∧ Hid (Below w.heap.size w wr)) (fun i _ => (N + 2 - (intOf i).toNat))
  case atStart =>
    refine ⟨0, by go_num, by omega, ?_, hB.out⟩
    show Fil _ _ _ _ _
    refine hF.out.congr fun j hj => ?_
    unfold dsM
    split
    · rfl
    · rw [if_neg (by omega)]; rfl
  case round =>
    obtain ⟨e, rfl, he, hf, hb⟩ := hrel
    have hbz := hb.out.size
    by_cases hlt : e + 1 ≤ N
    · have hlt' : (e : Int) + 1 ≤ N := by omega
      go_wp2
      go_loopw [8] (fun i wr => ∃ q : Nat, i = .int .i64 ((e + 1) * q : Nat) ∧ 1 ≤ q ∧ Hid (Fil w.heap.size wr w.heap.size (N + 1) (fun j => dsM d e ((e + 1) * q) j)) ∧ Hid (Below w.heap.size w wr) ∧ (e + 1) * q ≤ N + (e + 1)) (fun i _ => (2 * N + 2 - (intOf i).toNat))
      case atStart =>
        refine ⟨1, by rw [Nat.mul_one]; go_num, by omega, ?_, hb.out, by omega⟩
        show Fil _ _ _ _ _
        refine hf.out.congr fun j hj => ?_
        unfold dsM
        split
        · rfl
        · rename_i hj0
          rw [if_neg (by omega), if_neg]
          rintro ⟨h1, h2⟩
          rw [Nat.mul_one] at h2
          rw [Nat.mod_eq_of_lt h2] at h1
          exact hj0 h1
      case round =>
        obtain ⟨q, rfl, hq1, hf2, hb2, hqb⟩ := hrel
        have hbz2 := hb2.out.size
        obtain ⟨m, hm⟩ : ∃ m, (e + 1) * q = m := ⟨_, rfl⟩
        have hmq : (e + 1) * (q + 1) = m + (e + 1) := by rw [← hm, Nat.mul_add, Nat.mul_one]
        have hm1 : e + 1 ≤ m := by rw [← hm]; exact Nat.le_mul_of_pos_right _ (by omega)
        have hdiv : m % (e + 1) = 0 := by rw [← hm]; exact Nat.mul_mod_right _ _
        rw [hm] at hf2 hqb ⊢
        have HMQ := Lib.hid hmq
        have HM := Lib.hid hm
        clear hmq hm
        by_cases hml : m ≤ N
        · have hml' : (m : Int) ≤ N := by omega
          have hc := hf2.out.cell (j := m) (by omega)
          have hfr := hf2.out.frozen m
          obtain ⟨v1, v2⟩ := dsM_bd d e m m (by omega)
          obtain ⟨b1, b2⟩ := kro_bd d (e + 1)
          have hnew : Hid (dsM d e m m + kro d (e + 1) = dsM d e (m + 1) m) := by
            show _ = _
            unfold dsM
            rw [if_neg (by omega), if_neg (by omega), if_neg (by omega), if_pos ⟨hdiv, by omega⟩]
            omega
          have hcall : Hid (∀ w0, Calls Try.prog 40 #[.int .i64 d, .int .i64 ((e : Int) + 1)] w0 fun en w' => en = .returned (.int .i64 (kro d (e + 1))) ∧ w0 = w') := fun w0 => kronecker_any d (e + 1) w0 ⟨by omega, by omega⟩ (by omega) (by omega)
          have hglt := hf2.out.lt.2
          generalize hv : dsM d e m m = v at *
          generalize kro d (e + 1) = r at *
          have HV := Lib.hid hv
          clear hv
          go_wp2_with fail
          refine wp_region_past_tail 9 (by kernel_rfl) (by kernel_rfl) ?_
          simp only [List.take_succ_cons, List.take_zero, List.drop_succ_cons, List.drop_zero]
          repeat (first | go_big_quiet_skip | (go_big_quiet_want; go_big_quiet_op; first | go_big_quiet_on | (apply Exists.intro; refine ⟨fun _ => ?_, ?_⟩; (focus ((go_at_call 40; exact past_same (hcall.out _)))); go_big_quiet_on)))
          refine wpQuiet_nil ?_
          intro w1 hw'
          have hB1 := past_below hw'
          clear hw'
          obtain ⟨hC1, hF1⟩ := bcell hB1
          have hS1 := hB1.size
          (try simp at hS1)
          (try have hS1_w0 : w.heap.size < w1.heap.size := by omega)
          (try have hS1_w1 : w.heap.size + 1 < w1.heap.size := by omega)
          (try have hS1_w2 : w.heap.size + 1 + 1 < w1.heap.size := by omega)
          (try have hS1_w3 : w.heap.size + 1 + 1 + 1 < w1.heap.size := by omega)
          (try have hS1_w4 : w.heap.size + 1 + 1 + 1 + 1 < w1.heap.size := by omega)
          have hfm := hf2.out.later hB1
          have hc1 := hfm.cell (j := m) (by omega)
          have hfr1 := hfm.frozen m
          have hb3 := Lib.hid (hb2.out.trans (hB1.mono hbz2))
          have HF := Lib.hid (hfm.set m (v + r))
          clear hB1 hC1 hF1 hfm hc hfr
          go_wp2
          go_roundw
          case rel =>
            go_light
            refine ⟨q + 1, by rw [HMQ.out]; go_num, by omega, ?_, ?_, by rw [HMQ.out]; omega⟩
            · show Fil _ _ _ _ _
              refine HF.out.congr fun j hj => ?_
              rw [HMQ.out]
              by_cases hjm : j = m
              · subst hjm
                rw [if_pos rfl, hnew.out, dsM_hit (by omega) hdiv (by omega), dsM_hit (by omega) hdiv (by omega)]
              · rw [if_neg hjm]
                unfold dsM
                by_cases hj0 : j = 0
                · rw [if_pos hj0, if_pos hj0]
                · rw [if_neg hj0, if_neg hj0]
                  congr 1
                  by_cases hd2 : j % (e + 1) = 0
                  · by_cases hjl : j < m
                    · rw [if_pos ⟨hd2, hjl⟩, if_pos ⟨hd2, by omega⟩]
                    · have : ¬ j < m + (e + 1) := by
                        intro hj2
                        obtain ⟨z, hz⟩ := Nat.dvd_of_mod_eq_zero hd2
                        obtain ⟨y, hy⟩ := Nat.dvd_of_mod_eq_zero hdiv
                        have h1 : (e + 1) * y < (e + 1) * z := by omega
                        have h2 : (e + 1) * z < (e + 1) * (y + 1) := by rw [Nat.mul_add, Nat.mul_one]; omega
                        have h3 := Nat.lt_of_mul_lt_mul_left h1
                        have h4 := Nat.lt_of_mul_lt_mul_left h2
                        omega
                      rw [if_neg (fun h => hjl h.2), if_neg (fun h => this h.2)]
                  · rw [if_neg (fun h => hd2 h.1), if_neg (fun h => hd2 h.1)]
            · show Below _ _ _
              exact hb3.out.setCell (Nat.le_refl _) _
          case measure => simp [intOf]; omega
        · have hml' : ¬ (m : Int) ≤ N := by omega
          go_wp2
          go_roundw
          case rel =>
            go_light
            refine ⟨e + 1, by go_num, hlt, ?_, hb2.out⟩
            show Fil _ _ _ _ _
            refine hf2.out.congr fun j hj => ?_
            unfold dsM
            by_cases hj0 : j = 0
            · rw [if_pos hj0, if_pos hj0]
            · rw [if_neg hj0, if_neg hj0]
              show dS d j e + _ = (dS d j e + _) + _
              by_cases hd2 : j % (e + 1) = 0
              · rw [if_pos ⟨hd2, by omega⟩, if_pos hd2, if_neg (fun h => absurd h.2 (by omega))]; omega
              · rw [if_neg (fun h => hd2 h.1), if_neg hd2, if_neg (fun h => absurd h.2 (by omega))]; omega
          case measure => simp [intOf]; omega
    · have he' : e = N := by omega
      subst he'
      go_wp2
      go_ret2
      refine ⟨_, rfl, ?_, hb.out⟩
      have := hf.out.congr (f' := dsV d) fun j hj => by
        unfold dsM dsV
        by_cases hj0 : j = 0
        · rw [if_pos hj0, if_pos hj0]
        · rw [if_neg hj0, if_neg hj0, if_neg (fun h => absurd h.2 (by omega))]
          have := dS_stop (d := d) hj0 (e - j)
          rw [show j + (e - j) = e by omega] at this
          omega
      unfold Fil at this
      unfold dsrL
      rwa [show ((e : Int) + 1).toNat = e + 1 by omega]
theorem implDser_any (d n : Int) (w : World) (hd : I64 d) :
    Calls Try.prog 21 #[.int .i64 d, .int .i64 n] w fun en w' => ∃ v, en = .returned (.tuple #[v, .bool (negB d && decide (0 ≤ n ∧ n ≤ 100))]) ∧ Rw w.heap.size 3 1 c1 w' v (dsrR d n) ∧ Below w.heap.size w w' := by
  by_cases cn : 0 ≤ n ∧ n ≤ 100
  · cases c : negB d with
    | true =>
      rw [dsrR, c, decide_eq_true cn, Bool.true_and, if_pos rfl]
      exact implDser_yes d n w hd c cn.1 cn.2
    | false =>
      rw [dsrR, c, Bool.false_and, if_neg (by decide)]
      go_enter Try.func21, Try.ntmps21
      go_wp2_with (first | (go_at_call 34; refine (isNegativeDisc_any _ _ hd).mono ?_; rintro e w' ⟨rfl, rfl⟩) | (go_at_call 45; refine (isTerms_any _ _).mono ?_; rintro e w' ⟨rfl, rfl⟩))
      go_ret2
      exact ⟨_, rfl, Rw.empty (Nat.le_refl _), (Below.refl _ _).alloc (Nat.le_refl _) _⟩
  · have hin : decide (0 ≤ n ∧ n ≤ 100) = false := decide_eq_false cn
    rw [dsrR, hin, Bool.and_false, if_neg (by decide)]
    cases c : negB d
    all_goals
      go_enter Try.func21, Try.ntmps21
      go_wp2_with (first | (go_at_call 34; refine (isNegativeDisc_any _ _ hd).mono ?_; rintro e w' ⟨rfl, rfl⟩) | (go_at_call 45; refine (isTerms_any _ _).mono ?_; rintro e w' ⟨rfl, rfl⟩))
      go_ret2
      exact ⟨_, rfl, Rw.empty (Nat.le_refl _), (Below.refl _ _).alloc (Nat.le_refl _) _⟩
theorem specDser_any (d n : Int) (w : World) (hd : I64 d) :
    Calls Try.prog 20 #[.int .i64 d, .int .i64 n] w fun en w' => ∃ v, en = .returned (.tuple #[v, .bool (negB d && decide (0 ≤ n ∧ n ≤ 100))]) ∧ Rw w.heap.size 3 1 c1 w' v (dsrR d n) ∧ Below w.heap.size w w' := by
  by_cases cn : 0 ≤ n ∧ n ≤ 100
  · cases c : negB d with
    | true =>
      rw [dsrR, c, decide_eq_true cn, Bool.true_and, if_pos rfl]
      exact specDser_yes d n w hd c cn.1 cn.2
    | false =>
      rw [dsrR, c, Bool.false_and, if_neg (by decide)]
      go_enter Try.func20, Try.ntmps20
      go_wp2_with (first | (go_at_call 31; refine (reDisc_any _ _ hd).mono ?_; rintro e w' ⟨rfl, rfl⟩) | (go_at_call 43; refine (thTerms_any _ _).mono ?_; rintro e w' ⟨rfl, rfl⟩))
      go_ret2
      exact ⟨_, rfl, Rw.nil _ _ _ _ _, Below.refl _ _⟩
  · have hin : decide (0 ≤ n ∧ n ≤ 100) = false := decide_eq_false cn
    rw [dsrR, hin, Bool.and_false, if_neg (by decide)]
    cases c : negB d
    all_goals
      go_enter Try.func20, Try.ntmps20
      go_wp2_with (first | (go_at_call 31; refine (reDisc_any _ _ hd).mono ?_; rintro e w' ⟨rfl, rfl⟩) | (go_at_call 43; refine (thTerms_any _ _).mono ?_; rintro e w' ⟨rfl, rfl⟩))
      go_ret2
      exact ⟨_, rfl, Rw.nil _ _ _ _ _, Below.refl _ _⟩
set_option maxRecDepth 100000 in
set_option maxHeartbeats 4000000 in
theorem law_divisorSeries (d n : Int) (w : World) (hd : I64 d) (_ : I64 n) :
    Calls Try.prog 6 #[.int .i64 d, .int .i64 n] w fun en w' => en = .returned (.bool true) ∧ Below w.heap.size w w' := by
  have hlen : (dsrR d n).length ≤ 1100000 := dsrR_len d n
  obtain ⟨n', hn'⟩ : ∃ n', (dsrR d n).length = n' := ⟨_, rfl⟩
  rw [hn'] at hlen
  have HN := Lib.hid hn'
  clear hn'
  go_enter Try.func6, Try.ntmps6
  go_wp2_with fail
  refine (specDser_any d n _ hd).mono ?_
  rintro e1 w1 ⟨v0, rfl, hr0, hB1⟩
  have hz1 := hB1.size
  obtain ⟨a0, k0, hv0, hk0, _, hs0⟩ := hr0.sees c1_len
  rw [HN.out] at hv0 hk0
  subst hv0
  clear hk0
  have R0 := Lib.hid hr0
  have S0 := Lib.hid hs0
  have B1 := Lib.hid hB1
  clear hr0 hs0 hB1
  go_wp2_with fail
  refine (implDser_any d n _ hd).mono ?_
  rintro e2 w2 ⟨v1, rfl, hr1, hB2⟩
  have hz2 := hB2.size
  obtain ⟨a1, k1, hv1, hk1, _, hs1⟩ := hr1.sees c1_len
  rw [HN.out] at hv1 hk1
  subst hv1
  clear hk1
  have R1 := Lib.hid hr1
  have S1 := Lib.hid hs1
  have B2 := Lib.hid hB2
  clear hr1 hs1 hB2
  go_wp2_with fail
  refine (eqIntS_same _ _ _ _ _ _ _ _ _ HN.out S1.out (S0.out.below B2.out) hlen).mono ?_
  rintro e3 w3 ⟨rfl, hB3⟩
  have hz3 := hB3.size
  have B3 := Lib.hid hB3
  clear hB3
  go_wp2_with fail
  refine (markIntS_any w1.heap.size n' _ _ 1 _ HN.out (R1.out.later B3.out) hlen (by omega) (by omega)).mono ?_
  rintro e4 w4 ⟨rfl, hM, hg4⟩
  have hz4 := hg4.size
  have hap : (Value.slice a0 n' k0).ownBlock = none ∨ (Value.slice a0 n' k0).ownBlock ≠ (Value.slice a1 n' k1).ownBlock := by
    cases h0 : (Value.slice a0 n' k0).ownBlock with
    | none => exact .inl rfl
    | some g =>
      right
      intro h1
      have q1 := (R0.out.lt g h0).2
      have q2 := (R1.out.lt g h1.symm).1
      omega
  have hr04 : Rw w.heap.size 3 1 c1 w4 (.slice a0 n' k0) (dsrR d n) := ((R0.out.later B2.out).later B3.out).apart hg4 hap
  have hB4 : Below w.heap.size w w4 := below_of_grown (B1.out.trans ((B2.out.mono hz1).trans (B3.out.mono (by omega)))) hg4 (by omega) (fun g hg => by have := (R1.out.lt g hg).1; omega)
  obtain ⟨am, km, hem, hms⟩ := hM.sees
  simp only [Value.slice.injEq] at hem
  obtain ⟨rfl, -, rfl⟩ := hem
  have R04 := Lib.hid hr04
  have B4 := Lib.hid hB4
  have M4 := Lib.hid hM
  have N4 := Lib.hid hms
  clear hr04 hB4 hM hms hg4 hap
  go_wp2_with fail
  refine (heldIntS_any n' _ _ 1 _ N4.out hlen (by omega) (by omega)).mono ?_
  rintro e5 w5 ⟨rfl, hB5⟩
  have hz5 := hB5.size
  have B5 := Lib.hid hB5
  clear hB5
  go_wp2_with fail
  refine (implDser_any d n _ hd).mono ?_
  rintro e6 w6 ⟨v2, rfl, hr2, hB6⟩
  have hz6 := hB6.size
  obtain ⟨a2, k2, hv2, hk2, _, hs2⟩ := hr2.sees c1_len
  rw [HN.out] at hv2 hk2
  subst hv2
  clear hk2
  have R2 := Lib.hid hr2
  have S2 := Lib.hid hs2
  have B6 := Lib.hid hB6
  clear hr2 hs2 hB6
  go_wp2_with fail
  refine (eqIntS_same _ _ _ _ _ _ _ _ _ HN.out S2.out (((R04.out.seen c1_len).1.below B5.out).below B6.out) hlen).mono ?_
  rintro e7 w7 ⟨rfl, hB7⟩
  have hz7 := hB7.size
  have B7 := Lib.hid hB7
  clear hB7
  go_wp2_with fail
  refine (heldIntS_any n' _ _ 1 _ (((N4.out.below B5.out).below B6.out).below B7.out) hlen (by omega) (by omega)).mono ?_
  rintro e8 w8 ⟨rfl, hB8⟩
  have hz8 := hB8.size
  have B8 := Lib.hid hB8
  clear hB8
  go_wp2
  go_ret
  refine ⟨rfl, ?_⟩
  exact B4.out.trans ((B5.out.mono (by omega)).trans ((B6.out.mono (by omega)).trans ((B7.out.mono (by omega)).trans (B8.out.mono (by omega)))))
end Go.Proofs.Ytdahpjbpcdfhkaa
