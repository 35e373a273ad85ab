/-
  The reference's list of primitive reduced forms, and a draw from it.
-/
import Derived.Test.YtahhbjjnbdggjaaRed
import Derived.Test.YtahhbjjnbdggjaaCont
import Derived.Test.YtahhbjjnbdggjaaDrw
import Derived.Test.YtahhbjjnbdggjaaDiv
namespace Go.Proofs.Ytahhbjjnbdggjaa
open Go.RowKit
attribute [local simp, local go_sem] past_cell past_frozen past_tape
def LG (d : Int) (L : List (Int × Int × Int)) (j : Nat) (l : List (Int × Int × Int)) : Prop := l.length ≤ j ∧ (∀ f ∈ l, PF d f) ∧ ∀ f ∈ L.take j, f.1 = 1 → f ∈ l
set_option maxRecDepth 100000 in
set_option maxHeartbeats 8000000 in
theorem reList_any (d : Int) (w : World) (d1 : -2000 ≤ d) (d2 : d ≤ -3) (d4 : d % 4 < 2) :
    Calls Try.prog 84 #[.int .i64 d] w fun en w' => ∃ v l, en = .returned v ∧ Rw w.heap.size 25 3 c3 w' v l ∧ l.length ≤ 2000 ∧ (∀ f ∈ l, PF d f) ∧ 0 < l.length ∧ Below w.heap.size w w' := by
  go_enter Try.func84, Try.ntmps84
  go_wp2_with fail
  refine (reAll_any d _ d1 d2 d4).mono ?_
  rintro e1 w1 ⟨v1, L, rfl, hr1, hL1, hL2, hL3, hB1⟩
  obtain ⟨n, hn⟩ : ∃ n, L.length = n := ⟨_, rfl⟩
  obtain ⟨a1, k1, hv1, hk1, _, _⟩ := hr1.sees c3_len
  rw [hn] at hv1 hk1 hL1
  subst hv1
  have HN := Lib.hid hn
  have HL2 := Lib.hid hL2
  have HL3 := Lib.hid hL3
  have HR1 := Lib.hid hr1
  have HB1 := Lib.hid hB1
  clear hn hL2 hL3 hr1 hB1 hk1
  go_wp2
  go_loopw [3, 9] (fun v i wr => ∃ j : Nat, i = .int .i64 (j : Int) ∧ j ≤ n ∧ (∃ l, Hid (LG d L j l) ∧ Hid (Rw w.heap.size 25 3 c3 wr v l)) ∧ Hid (Rw w.heap.size 25 3 c3 wr (.slice a1 n k1) L) ∧ Hid (Ap v (.slice a1 n k1)) ∧ Hid (Below w.heap.size w wr)) (fun _ i _ => n - (intOf i).toNat)
  case atStart =>
    refine ⟨0, rfl, by omega, ⟨[], ⟨by simp, by simp, by simp⟩, Rw.nil _ _ _ _ _⟩, HR1.out, ?_, HB1.out⟩
    intro g h1 h2
    simp [Value.ownBlock] at h1
  case round =>
    obtain ⟨j, rfl, hj, ⟨l, hl, hr⟩, hrL, hap, hb⟩ := hrel
    have hbz := hb.out.size
    by_cases hlt : j < n
    · obtain ⟨x, hx⟩ := get_some HN.out hlt
      have hPF : PF d x := HL2.out x (List.mem_of_getElem? hx)
      have HX : Hid (L.take (j + 1) = L.take j ++ [x]) := by show _ = _; rw [List.take_add_one, hx]; rfl
      obtain ⟨g, rfl, hc0, hc1, hc2, hgw⟩ : ∃ g, a1 = some ⟨g, 0, none⟩ ∧ wr.cell? ⟨g, j * 3, none⟩ = some (.int .i64 x.1) ∧ wr.cell? ⟨g, j * 3 + 1, none⟩ = some (.int .i64 x.2.1) ∧ wr.cell? ⟨g, j * 3 + 2, none⟩ = some (.int .i64 x.2.2) ∧ g < wr.heap.size := by
        rcases (hrL.out.seen c3_len).1 with h0 | ⟨g, rfl, _, hgw, hcell, _⟩
        · have := HN.out; omega
        · exact ⟨g, rfl, by simpa [c3] using hcell j x hx 0 (by omega), by simpa [c3] using hcell j x hx 1 (by omega), by simpa [c3] using hcell j x hx 2 (by omega), hgw⟩
      obtain ⟨a, b, c⟩ := x
      simp only at hc0 hc1 hc2
      have hlen : l.length ≤ 1000000 := by have := hl.out.1; omega
      have hp := hPF
      obtain ⟨q1, q2, q3, q4, q5, q6, _⟩ := hPF
      simp only at q1 q2 q3 q4 q5 q6
      obtain ⟨G, hG⟩ : ∃ G, gcd3 a b c = G := ⟨_, rfl⟩
      have hone : Hid (a = 1 → G = 1) := by
        show _ → _
        intro h
        rw [← hG, h]
        simp [gcd3]
      have hcc : Hid (∀ w0, Calls Try.prog 43 #[.agg #[.int .i64 a, .int .i64 b, .int .i64 c]] w0 fun en w' => en = .returned (.int .i64 G) ∧ Below w0.heap.size w0 w') := fun w0 => by have h := foContent_any a b c w0 ⟨by omega, by omega⟩ ⟨by omega, by omega⟩ ⟨by omega, by omega⟩; rwa [hG] at h
      have HP := Lib.hid hp
      clear hp q1 q2 q3 q4 q5 q6 hG hx
      go_wp2_with fail
      refine (hcc.out _).mono ?_
      rintro e2 w2 ⟨rfl, hB2⟩
      have hz2 := hB2.size
      try simp at hz2
      obtain ⟨hC2, hF2⟩ := bcell hB2
      have hlt2 : wr.heap.size < w2.heap.size := by omega
      have hr2 := Lib.hid ((hr.out.alloc (.cells #[.int .i64 a, .int .i64 b, .int .i64 c] 25)).later hB2)
      have hrL2 := Lib.hid ((hrL.out.alloc (.cells #[.int .i64 a, .int .i64 b, .int .i64 c] 25)).later hB2)
      have hb2 : Hid (Below w.heap.size w w2) := Lib.hid ((hb.out.alloc hbz _).trans (hB2.mono (by simp; omega)))
      have hbz2 := hb2.out.size
      clear hB2
      by_cases hg : G = 1
      · have hg' : (G == 1) = true := by simp [hg]
        go_wp2_with (at_builtin; go_loud (refine app_form (hr2.out.alloc _) (by rfl) _ _ _ (by rfl) (by kernel_rfl) (by rfl) _ (a, b, c) (by rfl) (heap_alloc_new _ _) hlen (by simp; omega) ?_))
        intro v1' w3 hr3 hg3 hat3
        have hrL3 : Rw w.heap.size 25 3 c3 w3 _ L := ((hrL2.out.alloc _).apart hg3 hap.out.nel)
        have hap3 := hap.out.app hat3 (fun g hg => by have := (hrL2.out.lt g hg).2; simp; omega)
        have hb3 : Below w.heap.size w w3 := below_of_grown (hb2.out.alloc hbz2 _) hg3 (by simp; omega) (fun g hg => (hr2.out.lt g hg).1)
        have HR3 := Lib.hid hr3
        have HL3' := Lib.hid hrL3
        have HA3 := Lib.hid hap3
        have HB3 := Lib.hid hb3
        have HS : Hid (LG d L (j + 1) (l ++ [(a, b, c)])) := by
          show LG _ _ _ _
          refine ⟨by have := hl.out.1; simp; omega, fun f hf => ?_, fun f hf h1 => ?_⟩
          · rcases List.mem_append.1 hf with hf | hf
            · exact hl.out.2.1 f hf
            · have : f = (a, b, c) := by simpa using hf
              rw [this]; exact HP.out
          · rw [HX.out] at hf
            rcases List.mem_append.1 hf with hf | hf
            · exact List.mem_append_left _ (hl.out.2.2 f hf h1)
            · exact List.mem_append_right _ hf
        clear hr3 hrL3 hap3 hb3 hg3 hat3 hlen hC2 hF2
        go_wp2
        go_roundw
        case rel =>
          go_light
          refine ⟨j + 1, by go_num, by omega, ⟨_, HS.out, HR3.out⟩, HL3'.out, HA3.out, HB3.out⟩
        case measure => simp [intOf]; omega
      · have hg' : (G == 1) = false := by simp [hg]
        have HS : Hid (LG d L (j + 1) l) := by
          show LG _ _ _ _
          refine ⟨by have := hl.out.1; omega, hl.out.2.1, fun f hf h1 => ?_⟩
          rw [HX.out] at hf
          rcases List.mem_append.1 hf with hf | hf
          · exact hl.out.2.2 f hf h1
          · have : f = (a, b, c) := by simpa using hf
            rw [this] at h1
            exact (hg (hone.out h1)).elim
        go_wp2
        go_roundw
        case rel =>
          go_light
          refine ⟨j + 1, by go_num, by omega, ⟨_, HS.out, hr2.out⟩, hrL2.out, hap.out, hb2.out⟩
        case measure => simp [intOf]; omega
    · have hjn : j = n := by omega
      obtain ⟨f, hf, hf1⟩ := HL3.out
      have hmem : f ∈ l := hl.out.2.2 f (by rw [hjn, ← HN.out, List.take_length]; exact hf) hf1
      have hpos : 0 < l.length := List.length_pos_of_mem hmem
      go_wp2
      go_ret
      refine ⟨_, l, rfl, hr.out, by have := hl.out.1; omega, hl.out.2.1, hpos, hb.out⟩
end Go.Proofs.Ytahhbjjnbdggjaa
