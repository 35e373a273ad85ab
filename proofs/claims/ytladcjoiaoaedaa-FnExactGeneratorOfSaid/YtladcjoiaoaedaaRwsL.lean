/-
  What the laws do with lists: comparing, marking, looking at the marks. Printed by mkrows.py.
-/
import Derived.Test.YtladcjoiaoaedaaRws
namespace Go.Proofs.Ytladcjoiaoaedaa
open Go.RowKit
attribute [local simp, local go_sem] past_cell past_frozen past_tape
def c1 (x : Int) : List Value := [.int .i64 x]
def c3 (x : Int × Int × Int) : List Value := [.int .i64 x.1, .int .i64 x.2.1, .int .i64 x.2.2]
def c4 (x : Int × Int × Int × Int) : List Value := [.int .i64 x.1, .int .i64 x.2.1, .int .i64 x.2.2.1, .int .i64 x.2.2.2]
theorem c1_len (x : Int) : (c1 x).length = 1 := rfl
theorem c3_len (x : Int × Int × Int) : (c3 x).length = 3 := rfl
theorem c4_len (x : Int × Int × Int × Int) : (c4 x).length = 4 := rfl
theorem c1_one (x : Int) : ∀ u ∈ c1 x, u.oneCell' = true := by intro u hu; simp [c1] at hu; subst hu; rfl
theorem c3_one (x : Int × Int × Int) : ∀ u ∈ c3 x, u.oneCell' = true := by intro u hu; simp [c3] at hu; rcases hu with rfl | rfl | rfl <;> rfl
theorem c4_one (x : Int × Int × Int × Int) : ∀ u ∈ c4 x, u.oneCell' = true := by intro u hu; simp [c4] at hu; rcases hu with rfl | rfl | rfl | rfl <;> rfl
theorem get_some {α : Type} {l : List α} {k n : Nat} (hn : l.length = n) (h : k < n) : ∃ x, l[k]? = some x := ⟨_, List.getElem?_eq_getElem (hn ▸ h)⟩
theorem below_of_grown {B : Nat} {a b c : World} {row : Option Nat} (h : Below B a b) (hg : b.grownBy c row) (hB : B ≤ b.heap.size) (hr : ∀ k, row = some k → B ≤ k) : Below B a c := h.grown hg hB hr
theorem eqIdeal_row (a b d : Int) (w : World) :
    Calls Try.prog 24 #[.agg #[.int .i64 a, .int .i64 b, .int .i64 d], .agg #[.int .i64 a, .int .i64 b, .int .i64 d]] w fun en w' => en = .returned (.bool true) ∧ Below w.heap.size w w' := by
  go_enter Try.func24, Try.ntmps24
  go_wp2
  go_ret
  refine ⟨rfl, ?_⟩
  repeat (first | with_reducible exact Below.refl _ _ | with_reducible assumption | ((with_reducible refine blA ?_ ?_); (focus (first | omega | (simp <;> omega)))) | (with_reducible refine blD ?_) | (with_reducible refine blN ?_) | ((with_reducible refine blS ?_ ?_); (focus (first | omega | (simp <;> omega)))) | ((with_reducible refine blT (by assumption) ?_ ?_); (focus (first | omega | (simp <;> omega)))))
theorem grown_then {a b c : World} {row : Option Nat} (h : a.grownBy b row) (k : b.grownBy c row) : a.grownBy c row :=
  ⟨k.os.trans h.os, k.tape.trans h.tape, k.output.trans h.output, Nat.le_trans h.size k.size, fun i hi hr => (k.block i (Nat.lt_of_lt_of_le hi h.size) hr).trans (h.block i hi hr)⟩
theorem app_int {ops : Array Oper} {rest : List Oper} {o : Oper} {a : Act} {Q : Exit → Act → World → Prop} {w : World} {B : Nat} {v : Value} {l : List (Int)} (hown : Rw B 3 1 c1 w v l) (hgd : o.guard = none) (sl x : Operand) (T : TypeId)
    (ho : o.op = .call { callee := .builtin .append, args := #[sl, x], argTypes := #[T, T] }) (ht : Try.prog.underlying T = some (.slice 3)) (hv : a.eval sl = v) (h : Nat) (y : Int) (hx : a.eval x = .slice (some ⟨h, 0, none⟩) 1 1)
    (hh : w.heap[h]? = some (.cells #[.int .i64 y] 3 (0, 0))) (hl : l.length ≤ 1000000) (hB : B ≤ w.heap.size)
    (K : ∀ v' w', Rw B 3 1 c1 w' v' (l ++ [y]) → w.grownBy w' v.ownBlock → (v'.ownBlock = v.ownBlock ∨ v'.ownBlock = some w.heap.size) → wpList Try.prog ops Q rest (a.put o.dst v') w') : wpList Try.prog ops Q (o :: rest) a w :=
  app_rw w hgd sl x T ho ht (.int .i64 0) 8 (by kernel_rfl) rfl (by decide) (by decide) c1_len c1_one v l hv hown h y hx hh hl hB K
theorem app_ideal {ops : Array Oper} {rest : List Oper} {o : Oper} {a : Act} {Q : Exit → Act → World → Prop} {w : World} {B : Nat} {v : Value} {l : List (Int × Int × Int)} (hown : Rw B 34 3 c3 w v l) (hgd : o.guard = none) (sl x : Operand) (T : TypeId)
    (ho : o.op = .call { callee := .builtin .append, args := #[sl, x], argTypes := #[T, T] }) (ht : Try.prog.underlying T = some (.slice 34)) (hv : a.eval sl = v) (h : Nat) (y : Int × Int × Int) (hx : a.eval x = .slice (some ⟨h, 0, none⟩) 1 1)
    (hh : w.heap[h]? = some (.cells #[.int .i64 y.1, .int .i64 y.2.1, .int .i64 y.2.2] 34 (0, 0))) (hl : l.length ≤ 1000000) (hB : B ≤ w.heap.size)
    (K : ∀ v' w', Rw B 34 3 c3 w' v' (l ++ [y]) → w.grownBy w' v.ownBlock → (v'.ownBlock = v.ownBlock ∨ v'.ownBlock = some w.heap.size) → wpList Try.prog ops Q rest (a.put o.dst v') w') : wpList Try.prog ops Q (o :: rest) a w :=
  app_rw w hgd sl x T ho ht (.agg #[.int .i64 0, .int .i64 0, .int .i64 0]) 24 (by kernel_rfl) rfl (by decide) (by decide) c3_len c3_one v l hv hown h y hx hh hl hB K
theorem app_matrix {ops : Array Oper} {rest : List Oper} {o : Oper} {a : Act} {Q : Exit → Act → World → Prop} {w : World} {B : Nat} {v : Value} {l : List (Int × Int × Int × Int)} (hown : Rw B 98 4 c4 w v l) (hgd : o.guard = none) (sl x : Operand) (T : TypeId)
    (ho : o.op = .call { callee := .builtin .append, args := #[sl, x], argTypes := #[T, T] }) (ht : Try.prog.underlying T = some (.slice 98)) (hv : a.eval sl = v) (h : Nat) (y : Int × Int × Int × Int) (hx : a.eval x = .slice (some ⟨h, 0, none⟩) 1 1)
    (hh : w.heap[h]? = some (.cells #[.int .i64 y.1, .int .i64 y.2.1, .int .i64 y.2.2.1, .int .i64 y.2.2.2] 98 (0, 0))) (hl : l.length ≤ 1000000) (hB : B ≤ w.heap.size)
    (K : ∀ v' w', Rw B 98 4 c4 w' v' (l ++ [y]) → w.grownBy w' v.ownBlock → (v'.ownBlock = v.ownBlock ∨ v'.ownBlock = some w.heap.size) → wpList Try.prog ops Q rest (a.put o.dst v') w') : wpList Try.prog ops Q (o :: rest) a w :=
  app_rw w hgd sl x T ho ht (.agg #[.int .i64 0, .int .i64 0, .int .i64 0, .int .i64 0]) 32 (by kernel_rfl) rfl (by decide) (by decide) c4_len c4_one v l hv hown h y hx hh hl hB K
set_option maxRecDepth 100000 in
set_option maxHeartbeats 4000000 in
theorem eqIdealS_same (B1 B2 n : Nat) (a1 a2 : Option Addr) (cap1 cap2 : Nat) (l : List (Int × Int × Int)) (w : World) (hn : l.length = n) (h1 : Sees B1 3 c3 w a1 l) (h2 : Sees B2 3 c3 w a2 l) (hl : n ≤ 1100000) :
    Calls Try.prog 16 #[.slice a1 n cap1, .slice a2 n cap2] w fun en w' => en = .returned (.bool true) ∧ Below w.heap.size w w' := by
  have H1 := Lib.hid h1
  have H2 := Lib.hid h2
  have HN := Lib.hid hn
  clear h1 h2 hn
  go_enter Try.func16, Try.ntmps16
  go_wp2
  go_loopw [5] (fun i wr => ∃ k : Nat, k ≤ n ∧ i = .int .i64 (k : Int) ∧ Hid (Below w.heap.size w wr)) (fun i _ => n - (intOf i).toNat)
  case atStart => exact ⟨0, by omega, rfl, Below.refl _ _⟩
  case round =>
    obtain ⟨k, hk, rfl, hb⟩ := hrel
    have hbs := hb.out.size
    by_cases hkl : k < n
    · obtain ⟨x, hx⟩ := get_some HN.out hkl
      rcases H1.out with h0 | ⟨g1, rfl, _, hbl1, hcell1, _⟩
      · have := HN.out; omega
      rcases H2.out with h0 | ⟨g2, rfl, _, hbl2, hcell2, _⟩
      · have := HN.out; omega
      have l1 : g1 < wr.heap.size := by omega
      have l2 : g2 < wr.heap.size := by omega
      obtain e10 : wr.cell? ⟨g1, k * 3, none⟩ = some (.int .i64 x.1) := by have := hcell1 k x hx 0 (by omega); rw [bG hb.out hbl1]; simpa [c3] using this
      obtain e11 : wr.cell? ⟨g1, k * 3 + 1, none⟩ = some (.int .i64 x.2.1) := by have := hcell1 k x hx 1 (by omega); rw [bG hb.out hbl1]; simpa [c3] using this
      obtain e12 : wr.cell? ⟨g1, k * 3 + 2, none⟩ = some (.int .i64 x.2.2) := by have := hcell1 k x hx 2 (by omega); rw [bG hb.out hbl1]; simpa [c3] using this
      obtain e20 : wr.cell? ⟨g2, k * 3, none⟩ = some (.int .i64 x.1) := by have := hcell2 k x hx 0 (by omega); rw [bG hb.out hbl2]; simpa [c3] using this
      obtain e21 : wr.cell? ⟨g2, k * 3 + 1, none⟩ = some (.int .i64 x.2.1) := by have := hcell2 k x hx 1 (by omega); rw [bG hb.out hbl2]; simpa [c3] using this
      obtain e22 : wr.cell? ⟨g2, k * 3 + 2, none⟩ = some (.int .i64 x.2.2) := by have := hcell2 k x hx 2 (by omega); rw [bG hb.out hbl2]; simpa [c3] using this
      clear hcell1 hcell2 hx
      go_wp2_with fail
      refine wp_region_past (by kernel_rfl) (by kernel_rfl) ?_
      repeat (first | go_big_quiet_skip | (go_big_quiet_want; go_big_quiet_op; first | go_big_quiet_on | (apply Exists.intro; refine ⟨fun _ => ?_, ?_⟩; (focus ((go_at_call 24; exact past_of (eqIdeal_row _ _ _ _)))); go_big_quiet_on)))
      refine wpQuiet_nil ?_
      intro w1 hw'
      have hB1 := past_below hw'
      clear hw'
      obtain ⟨hC1, hF1⟩ := bcell hB1
      have hS1 := hB1.size
      (try simp at hS1)
      (try have hS1_w0 : w.heap.size < w1.heap.size := by omega)
      (try have hS1_w1 : w.heap.size + 1 < w1.heap.size := by omega)
      (try have hS1_w2 : w.heap.size + 1 + 1 < w1.heap.size := by omega)
      (try have hS1_w3 : w.heap.size + 1 + 1 + 1 < w1.heap.size := by omega)
      (try have hS1_w4 : w.heap.size + 1 + 1 + 1 + 1 < w1.heap.size := by omega)
      go_wp2
      go_roundw
      case rel =>
        go_light
        refine ⟨k + 1, by omega, by go_num, ?_⟩
        show Below _ _ _
        exact hb.out.trans (hB1.mono (by omega))
      case measure => simp [intOf]; omega
    · have hk' : k = n := by omega
      subst hk'
      go_wp2
      go_ret
      exact ⟨rfl, hb.out⟩
set_option maxRecDepth 100000 in
set_option maxHeartbeats 4000000 in
theorem markIdealS_any (B n : Nat) (v : Value) (l : List (Int × Int × Int)) (k0 : Int) (w : World) (hn : l.length = n) (h : Rw B 34 3 c3 w v l) (hl : n ≤ 1100000) (hk0 : 0 ≤ k0) (hk1 : k0 ≤ 100000000) :
    Calls Try.prog 17 #[v, .int .i64 k0] w fun en w' => en = .returned (.int .i64 (k0 + 3 * (n : Int))) ∧ Mk B 34 3 w' v n k0 ∧ w.grownBy w' v.ownBlock := by
  unfold Rw at h
  rw [hn] at h
  rcases h.2 with ⟨rfl, rfl⟩ | ⟨g, cap, cur, rfl, hbg, hg, hnc, hcm, hcs, hct⟩
  · go_enter Try.func17, Try.ntmps17
    go_wp2
    refine wp_loop_rounds 1 ?_
    rw [rounds_succ]
    go_wp2
    go_ret
    exact ⟨ret_int (by omega), ⟨_, h, fun j hj => absurd hj (by omega)⟩, World.grownBy.refl _ _⟩
  · have hglt : g < w.heap.size := World.ownsRow.lt h g rfl |>.2
    have H := Lib.hid h
    clear h hg hct hcs hcm hn
    go_enter Try.func17, Try.ntmps17
    go_wp2
    go_loopw [1, 5] (fun q i wr => ∃ k : Nat, k ≤ n ∧ i = .int .i64 (k : Int) ∧ q = .int .i64 (k0 + 3 * (k : Int)) ∧ Hid (∃ xs, wr.ownsRow B 34 3 (.slice (some ⟨g, 0, none⟩) n cap) n xs ∧ ∀ j, j < k * 3 → xs[j]? = some (.int .i64 (k0 + (j : Int)))) ∧ Hid (w.grownBy wr (some g))) (fun _ i _ => n - (intOf i).toNat)
    case atStart => exact ⟨0, by omega, rfl, (by first | (simp; done) | (congr 1; omega)), ⟨_, H.out, fun j hj => absurd hj (by omega)⟩, World.grownBy.refl _ _⟩
    case round =>
      obtain ⟨k, hk, rfl, rfl, hown, hgrow⟩ := hrel
      by_cases hkl : k < n
      · obtain ⟨xs, hown, hm⟩ := hown.out
        have hlen := hown.1
        obtain ⟨u0, d0⟩ : ∃ u, wr.cell? ⟨g, k * 3, none⟩ = some u := ⟨_, by rw [hown.cellAt _ (by omega), List.getElem?_eq_getElem (by rw [hown.1]; omega)]⟩
        obtain ⟨u1, d1⟩ : ∃ u, wr.cell? ⟨g, k * 3 + 1, none⟩ = some u := ⟨_, by rw [hown.cellAt _ (by omega), List.getElem?_eq_getElem (by rw [hown.1]; omega)]⟩
        obtain ⟨u2, d2⟩ : ∃ u, wr.cell? ⟨g, k * 3 + 2, none⟩ = some u := ⟨_, by rw [hown.cellAt _ (by omega), List.getElem?_eq_getElem (by rw [hown.1]; omega)]⟩
        have hfr : ∀ o, wr.frozen? ⟨g, o, none⟩ = false := fun o => hown.frozenAt o
        have st0 := hown.stored (k * 3) (.int .i64 (k0 + 3 * (k : Int)))
        have st1 := st0.1.stored (k * 3 + 1) (.int .i64 (k0 + 3 * (k : Int) + 1))
        have st2 := st1.1.stored (k * 3 + 2) (.int .i64 (k0 + 3 * (k : Int) + 1 + 1))
        have hnew : Hid (World.ownsRow _ B 34 3 (.slice (some ⟨g, 0, none⟩) n cap) n (((xs.set (k * 3) (.int .i64 (k0 + 3 * (k : Int)))).set (k * 3 + 1) (.int .i64 (k0 + 3 * (k : Int) + 1))).set (k * 3 + 2) (.int .i64 (k0 + 3 * (k : Int) + 1 + 1)))) := Lib.hid st2.1
        have hgr : Hid (World.grownBy wr _ (some g)) := Lib.hid (grown_then (grown_then st0.2 st1.2) st2.2)
        have hm2 : Hid (∀ j, j < (k + 1) * 3 → ((((xs.set (k * 3) (.int .i64 (k0 + 3 * (k : Int)))).set (k * 3 + 1) (.int .i64 (k0 + 3 * (k : Int) + 1))).set (k * 3 + 2) (.int .i64 (k0 + 3 * (k : Int) + 1 + 1))))[j]? = some (.int .i64 (k0 + (j : Int)))) := by
          show ∀ j, _ → _
          intro j hj
          by_cases j0 : j = k * 3
          · subst j0; rw [List.getElem?_set_ne (by omega), List.getElem?_set_ne (by omega), List.getElem?_set_self (by (try simp only [List.length_set]); omega)]; first | done | (congr 2; omega)
          by_cases j1 : j = k * 3 + 1
          · subst j1; rw [List.getElem?_set_ne (by omega), List.getElem?_set_self (by (try simp only [List.length_set]); omega)]; first | done | (congr 2; omega)
          by_cases j2 : j = k * 3 + 2
          · subst j2; rw [List.getElem?_set_self (by (try simp only [List.length_set]); omega)]; first | done | (congr 2; omega)
          rw [List.getElem?_set_ne (by omega), List.getElem?_set_ne (by omega), List.getElem?_set_ne (by omega), hm j (by omega)]
        clear st0 st1 st2 hm hown
        go_wp2
        go_roundw
        case rel =>
          go_light
          refine ⟨k + 1, by omega, by go_num, by go_num, ⟨_, hnew.out, hm2.out⟩, ?_⟩
          show World.grownBy _ _ _
          exact grown_then hgrow.out hgr.out
        case measure => simp [intOf]; omega
      · have hk' : k = n := by omega
        subst hk'
        go_wp2
        go_ret
        exact ⟨rfl, hown.out, hgrow.out⟩
set_option maxRecDepth 100000 in
set_option maxHeartbeats 4000000 in
theorem heldIdealS_any (n cap : Nat) (a : Option Addr) (k0 : Int) (w : World) (h : MSees 3 w a n k0) (hl : n ≤ 1100000) (hk0 : 0 ≤ k0) (hk1 : k0 ≤ 100000000) :
    Calls Try.prog 18 #[.slice a n cap, .int .i64 k0] w fun en w' => en = .returned (.int .i64 (k0 + 3 * (n : Int))) ∧ Below w.heap.size w w' := by
  have H := Lib.hid h
  clear h
  go_enter Try.func18, Try.ntmps18
  go_wp2
  go_loopw [1, 5] (fun q i wr => ∃ k : Nat, k ≤ n ∧ i = .int .i64 (k : Int) ∧ q = .int .i64 (k0 + 3 * (k : Int)) ∧ Hid (Below w.heap.size w wr)) (fun _ i _ => n - (intOf i).toNat)
  case atStart => exact ⟨0, by omega, rfl, (by first | (simp; done) | (congr 1; omega)), Below.refl _ _⟩
  case round =>
    obtain ⟨k, hk, rfl, rfl, hb⟩ := hrel
    by_cases hkl : k < n
    · rcases H.out with h0 | ⟨g, rfl, hgl, hcell⟩
      · omega
      have f0 : wr.cell? ⟨g, k * 3, none⟩ = some (.int .i64 (k0 + 3 * (k : Int))) := by rw [bG hb.out hgl, hcell (k * 3) (by omega)]; first | done | (congr 2; omega)
      have f1 : wr.cell? ⟨g, k * 3 + 1, none⟩ = some (.int .i64 (k0 + 3 * (k : Int) + 1)) := by rw [bG hb.out hgl, hcell (k * 3 + 1) (by omega)]; first | done | (congr 2; omega)
      have f2 : wr.cell? ⟨g, k * 3 + 2, none⟩ = some (.int .i64 (k0 + 3 * (k : Int) + 1 + 1)) := by rw [bG hb.out hgl, hcell (k * 3 + 2) (by omega)]; first | done | (congr 2; omega)
      clear hcell
      go_wp2
      go_roundw
      case rel =>
        go_light
        exact ⟨k + 1, by omega, by go_num, by go_num, hb.out⟩
      case measure => simp [intOf]; omega
    · have hk' : k = n := by omega
      subst hk'
      go_wp2
      go_ret
      exact ⟨rfl, hb.out⟩
end Go.Proofs.Ytladcjoiaoaedaa
