/-
  The reference's draws of ideals: reduced forms, moved forms.
-/
import Derived.Test.YtahhbjjnbdggjaaRel
import Derived.Test.YtahhbjjnbdggjaaDrf
import Derived.Test.YtahhbjjnbdggjaaDrd
namespace Go.Proofs.Ytahhbjjnbdggjaa
open Go.RowKit
attribute [local simp, local go_sem] past_cell past_frozen past_tape
set_option maxRecDepth 100000 in
set_option maxHeartbeats 4000000 in
theorem reduced_any (m g : Nat) (d : Int) (w : World) (h : Cur m g w) (hm : m ≤ 900000) (hd : -2000 ≤ d ∧ d ≤ -3 ∧ d % 4 < 2) :
    Calls Try.prog 79 #[.pointer (some ⟨g, 0, none⟩), .int .i64 d] w fun e w' => (∃ x : Int × Int × Int, e = .returned (.agg #[.int .i64 x.1, .int .i64 x.2.1, .int .i64 x.2.2]) ∧ PF d x ∧ True) ∧ Cur (m + 10) g w' ∧ w.grownBy w' (some g) := by
  have hlt := h.lt
  have k0 : Cur m g (w.alloc (.cells #[.int .i64 0, .int .i64 0, .int .i64 0] 25)) := kA h
  go_enter Try.func79, Try.ntmps79
  go_wp2_with fail
  refine (reList_any d _ hd.1 hd.2.1 hd.2.2).mono ?_
  rintro e1 w1 ⟨v1, L, rfl, hr1, hL1, hL2, hL3, hB1⟩
  obtain ⟨hC1, hF1⟩ := bcell hB1
  have hz1 := hB1.size
  (try simp at hz1)
  have k1 := kB hB1 k0
  obtain ⟨n, hn⟩ : ∃ n, L.length = n := ⟨_, rfl⟩
  obtain ⟨a1, c1', hv1, _, _, hs1⟩ := hr1.sees c3_len
  rw [hn] at hv1 hL1 hL3
  subst hv1
  have g1 : w.grownBy w1 (some g) := gB hB1 (gA (grown_id _ _))
  clear hB1
  go_wp2_with fail
  refine (pick_any _ g _ _ k1 (by omega) (by omega)).mono ?_
  rintro e2 w2 ⟨⟨x2, rfl, p2, q2⟩, k2, g2⟩
  obtain ⟨hC2, hF2⟩ := gcell g2 hlt
  have hz2 := g2.size
  have hl1 : w.heap.size < w1.heap.size := by omega
  have hl2 : w.heap.size < w2.heap.size := by omega
  obtain ⟨i, rfl⟩ : ∃ i : Nat, x2 = i := ⟨x2.toNat, by omega⟩
  have hi : i < n := by omega
  have hi' : (i : Int) < (n : Int) := by omega
  obtain ⟨x, hx⟩ := get_some hn hi
  have hPF : PF d x := hL2 x (List.mem_of_getElem? hx)
  obtain ⟨b, rfl, hc0, hc1, hc2⟩ : ∃ b, a1 = some ⟨b, 0, none⟩ ∧ w2.cell? ⟨b, i * 3, none⟩ = some (.int .i64 x.1) ∧ w2.cell? ⟨b, i * 3 + 1, none⟩ = some (.int .i64 x.2.1) ∧ w2.cell? ⟨b, i * 3 + 2, none⟩ = some (.int .i64 x.2.2) := by
    rcases hs1 with h0 | ⟨b, rfl, hb1, hb2, hcell, _⟩
    · omega
    · simp at hb1
      have e := fun o => hC2 b o (by omega) hb2
      exact ⟨b, rfl, by rw [e]; simpa [c3] using hcell i x hx 0 (by omega), by rw [e]; simpa [c3] using hcell i x hx 1 (by omega), by rw [e]; simpa [c3] using hcell i x hx 2 (by omega)⟩
  obtain ⟨a, b', c⟩ := x
  simp only at hc0 hc1 hc2
  clear hs1 hr1
  go_wp2_with fail
  refine bodyPost_ret (v := .agg #[.int .i64 a, .int .i64 b', .int .i64 c]) (by go_light; simp [results, Try.results79, go_sem, *]) rfl ⟨⟨(a, b', c), rfl, hPF, trivial⟩, ?_, ?_⟩
  · repeat (first | with_reducible refine kA ?_ | ((with_reducible refine kS ?_ ?_); focus omega))
    exact Cur.mono (by assumption) (by omega)
  · repeat (first | with_reducible assumption | with_reducible exact grown_id _ _ | with_reducible refine gA ?_ | ((with_reducible refine gS ?_ ?_); focus (first | omega | (simp <;> omega))) | with_reducible refine gT (by assumption) ?_)
end Go.Proofs.Ytahhbjjnbdggjaa
