/-
  Lists of forms: a form is looked for, both ways.
-/
import Derived.Test.YtemnkfigjpphgaaRiv
import Derived.Test.YtemnkfigjpphgaaIrc
import Derived.Test.YtemnkfigjpphgaaForm
namespace Go.Proofs.Ytemnkfigjpphgaa
open Go.RowKit
attribute [local simp, local go_sem] past_cell past_frozen past_tape
/-- A form is appended. -/
theorem app_formI {ops : Array Oper} {rest : List Oper} {o : Oper} {a : Act} {Q : Exit → Act → World → Prop} {w : World} {B : Nat} {v : Value} {l : List (Int × Int × Int)} (hown : Rw B 36 3 c3 w v l) (hgd : o.guard = none) (sl x : Operand) (T : TypeId)
    (ho : o.op = .call { callee := .builtin .append, args := #[sl, x], argTypes := #[T, T] }) (ht : Try.prog.underlying T = some (.slice 36)) (hv : a.eval sl = v) (h : Nat) (y : Int × Int × Int) (hx : a.eval x = .slice (some ⟨h, 0, none⟩) 1 1)
    (hh : w.heap[h]? = some (.cells #[.int .i64 y.1, .int .i64 y.2.1, .int .i64 y.2.2] 36 (0, 0))) (hl : l.length ≤ 1000000) (hB : B ≤ w.heap.size)
    (K : ∀ v' w', Rw B 36 3 c3 w' v' (l ++ [y]) → w.grownBy w' v.ownBlock → (v'.ownBlock = v.ownBlock ∨ v'.ownBlock = some w.heap.size) → wpList Try.prog ops Q rest (a.put o.dst v') w') : wpList Try.prog ops Q (o :: rest) a w :=
  app_rw w hgd sl x T ho ht (.agg #[.int .i64 0, .int .i64 0, .int .i64 0]) 24 (by kernel_rfl) rfl (by decide) (by decide) c3_len c3_one v l hv hown h y hx hh hl hB K
/-- A row of one form that has just been made. -/
theorem Rw.single {B : Nat} {w : World} (f : Fm) (hB : B ≤ w.heap.size) : Rw B 36 3 c3 (w.alloc (.cells #[.int .i64 f.1, .int .i64 f.2.1, .int .i64 f.2.2] 36)) (.slice (some ⟨w.heap.size, 0, none⟩) 1 1) [f] :=
  ⟨by simp [c3], .inr ⟨w.heap.size, 1, _, rfl, hB, heap_alloc_new w _, Nat.le_refl _, by unfold maxLen; omega, by simp, by simp [c3]⟩⟩
set_option maxHeartbeats 2000000 in
theorem hasForm_any (l : List Fm) (p : Fm) (a : Option Addr) (cap : Nat) (B : Nat) (w : World) (hs : Sees B 3 c3 w a l) (hl : l.length ≤ 1000000) :
    Calls Try.prog 66 #[.slice a l.length cap, .agg #[.int .i64 p.1, .int .i64 p.2.1, .int .i64 p.2.2]] w fun en w' => en = .returned (.bool (decide (p ∈ l))) ∧ Below w.heap.size w w' := by
  obtain ⟨x, y, z⟩ := p
  go_enter Try.func66, Try.ntmps66
  go_wp2
  go_loopw [9] (fun i wr => ∃ k : Nat, i = .int .i64 (k : Int) ∧ k ≤ l.length ∧ Hid (∀ j, j < k → l[j]? ≠ some (x, y, z)) ∧ Hid (Blk w.heap.size 36 #[.int .i64 x, .int .i64 y, .int .i64 z] wr) ∧ Hid (Below w.heap.size w wr)) (fun i _ => l.length - (intOf i).toNat)
  case atStart =>
    refine ⟨0, rfl, by omega, Lib.hid (fun j hj => by omega), Lib.hid (Blk.new _ _ _), ?_⟩
    show Below _ _ _
    repeat (first | with_reducible exact Below.refl _ _ | with_reducible assumption | ((with_reducible refine blA ?_ ?_); (focus (first | omega | (simp <;> omega)))) | (with_reducible refine blD ?_) | (with_reducible refine blN ?_) | ((with_reducible refine blS ?_ ?_); (focus (first | omega | (simp <;> omega)))) | ((with_reducible refine blT (by assumption) ?_ ?_); (focus (first | omega | (simp <;> omega)))))
  case round =>
    obtain ⟨k, rfl, hk, hno, hblk, hbel⟩ := hrel
    have hbs := hbel.out.size
    rcases Nat.lt_or_ge k l.length with hlt | hge
    · obtain ⟨⟨u, v, t⟩, huv⟩ : ∃ z, l[k]? = some z := ⟨l[k], List.getElem?_eq_getElem hlt⟩
      have HS : Sees B 3 c3 wr a l := by
        rcases hs with h0 | ⟨g, h1, h2, h3, h4, h5⟩
        · omega
        · exact .inr ⟨g, h1, h2, by omega, fun k x hx o ho => by rw [bG hbel.out h3, h4 k x hx o ho], fun o => by rw [fG hbel.out h3, h5]⟩
      rcases HS with h0 | ⟨g, rfl, hg1, hg2, hg3, hg4⟩
      · omega
      have cu : wr.cell? ⟨g, k * 3, none⟩ = some (.int .i64 u) := by have := hg3 k _ huv 0 (by omega); simpa [c3] using this
      have cv : wr.cell? ⟨g, k * 3 + 1, none⟩ = some (.int .i64 v) := by have := hg3 k _ huv 1 (by omega); simpa [c3] using this
      have ct : wr.cell? ⟨g, k * 3 + 2, none⟩ = some (.int .i64 t) := by have := hg3 k _ huv 2 (by omega); simpa [c3] using this
      have cb := hblk.out.cell
      have lb := hblk.out.lt
      clear hg3 hg4 hs
      obtain ⟨w1, e1, k1, kb1, b1⟩ : ∃ w1, wr.alloc (.cells #[.int .i64 u, .int .i64 v, .int .i64 t] 36) = w1 ∧ Blk wr.heap.size 36 #[.int .i64 u, .int .i64 v, .int .i64 t] w1 ∧ Blk w.heap.size 36 #[.int .i64 x, .int .i64 y, .int .i64 z] w1 ∧ Below w.heap.size w w1 := ⟨_, rfl, Blk.new _ _ _, hblk.out.alloc _, hbel.out.alloc hbs _⟩
      have ck1 := k1.cell
      have ckb1 := kb1.cell
      have KB := Lib.hid kb1
      have B1 := Lib.hid b1
      have HUV := Lib.hid huv
      clear k1 kb1 b1 huv
      by_cases hxy : u = x ∧ v = y ∧ t = z
      · obtain ⟨rfl, rfl, rfl⟩ := hxy
        have hmem : decide ((u, v, t) ∈ l) = true := decide_eq_true (List.mem_of_getElem? HUV.out)
        have HM := Lib.hid hmem
        clear hmem
        go_wp2_with fail
        go_ret
        exact ⟨ret_bool HM.out.symm, B1.out⟩
      · have HXY := Lib.hid hxy
        have HNO : Hid (∀ j, j < k + 1 → l[j]? ≠ some (x, y, z)) := Lib.hid (fun j hj => by
          rcases (show j < k ∨ j = k by omega) with h1 | rfl
          · exact hno.out j h1
          · rw [HUV.out]
            intro h2
            have h3 := Option.some.inj h2
            exact HXY.out ⟨congrArg Prod.fst h3, congrArg (fun q => q.2.1) h3, congrArg (fun q => q.2.2) h3⟩)
        clear hxy
        by_cases hux : u = x
        · subst hux
          by_cases hvy : v = y
          · subst hvy
            have htz : ¬ t = z := fun h => HXY.out ⟨rfl, rfl, h⟩
            go_wp2_with fail
            refine ⟨⟨k + 1, by go_num, by omega, HNO, KB, Lib.hid B1.out⟩, ?_⟩
            simp [intOf]; omega
          · go_wp2_with fail
            refine ⟨⟨k + 1, by go_num, by omega, HNO, KB, Lib.hid B1.out⟩, ?_⟩
            simp [intOf]; omega
        · go_wp2_with fail
          refine ⟨⟨k + 1, by go_num, by omega, HNO, KB, Lib.hid B1.out⟩, ?_⟩
          simp [intOf]; omega
    · obtain rfl : k = l.length := by omega
      have hmem : decide ((x, y, z) ∈ l) = false := decide_eq_false fun h => by
        obtain ⟨j, hj⟩ := List.getElem?_of_mem h
        exact hno.out j (by rcases Nat.lt_or_ge j l.length with h1 | h1; exact h1; rw [List.getElem?_eq_none h1] at hj; cases hj) hj
      have HM := Lib.hid hmem
      clear hmem
      go_wp2
      go_ret
      exact ⟨ret_bool HM.out.symm, hbel.out⟩
set_option maxHeartbeats 2000000 in
theorem cyHas_any (l : List Fm) (p : Fm) (a : Option Addr) (cap : Nat) (B : Nat) (w : World) (hs : Sees B 3 c3 w a l) (hl : l.length ≤ 1000000) :
    Calls Try.prog 76 #[.slice a l.length cap, .agg #[.int .i64 p.1, .int .i64 p.2.1, .int .i64 p.2.2]] w fun en w' => en = .returned (.bool (decide (p ∈ l))) ∧ Below w.heap.size w w' := by
  obtain ⟨x, y, z⟩ := p
  go_enter Try.func76, Try.ntmps76
  go_wp2
  go_loopw [9] (fun i wr => ∃ k : Nat, i = .int .i64 (k : Int) ∧ k ≤ l.length ∧ Hid (∀ j, j < k → l[j]? ≠ some (x, y, z)) ∧ Hid (Blk w.heap.size 36 #[.int .i64 x, .int .i64 y, .int .i64 z] wr) ∧ Hid (Below w.heap.size w wr)) (fun i _ => l.length - (intOf i).toNat)
  case atStart =>
    refine ⟨0, rfl, by omega, Lib.hid (fun j hj => by omega), Lib.hid (Blk.new _ _ _), ?_⟩
    show Below _ _ _
    repeat (first | with_reducible exact Below.refl _ _ | with_reducible assumption | ((with_reducible refine blA ?_ ?_); (focus (first | omega | (simp <;> omega)))) | (with_reducible refine blD ?_) | (with_reducible refine blN ?_) | ((with_reducible refine blS ?_ ?_); (focus (first | omega | (simp <;> omega)))) | ((with_reducible refine blT (by assumption) ?_ ?_); (focus (first | omega | (simp <;> omega)))))
  case round =>
    obtain ⟨k, rfl, hk, hno, hblk, hbel⟩ := hrel
    have hbs := hbel.out.size
    rcases Nat.lt_or_ge k l.length with hlt | hge
    · obtain ⟨⟨u, v, t⟩, huv⟩ : ∃ z, l[k]? = some z := ⟨l[k], List.getElem?_eq_getElem hlt⟩
      have HS : Sees B 3 c3 wr a l := by
        rcases hs with h0 | ⟨g, h1, h2, h3, h4, h5⟩
        · omega
        · exact .inr ⟨g, h1, h2, by omega, fun k x hx o ho => by rw [bG hbel.out h3, h4 k x hx o ho], fun o => by rw [fG hbel.out h3, h5]⟩
      rcases HS with h0 | ⟨g, rfl, hg1, hg2, hg3, hg4⟩
      · omega
      have cu : wr.cell? ⟨g, k * 3, none⟩ = some (.int .i64 u) := by have := hg3 k _ huv 0 (by omega); simpa [c3] using this
      have cv : wr.cell? ⟨g, k * 3 + 1, none⟩ = some (.int .i64 v) := by have := hg3 k _ huv 1 (by omega); simpa [c3] using this
      have ct : wr.cell? ⟨g, k * 3 + 2, none⟩ = some (.int .i64 t) := by have := hg3 k _ huv 2 (by omega); simpa [c3] using this
      have cb := hblk.out.cell
      have lb := hblk.out.lt
      clear hg3 hg4 hs
      obtain ⟨w1, e1, k1, kb1, b1⟩ : ∃ w1, wr.alloc (.cells #[.int .i64 u, .int .i64 v, .int .i64 t] 36) = w1 ∧ Blk wr.heap.size 36 #[.int .i64 u, .int .i64 v, .int .i64 t] w1 ∧ Blk w.heap.size 36 #[.int .i64 x, .int .i64 y, .int .i64 z] w1 ∧ Below w.heap.size w w1 := ⟨_, rfl, Blk.new _ _ _, hblk.out.alloc _, hbel.out.alloc hbs _⟩
      have ck1 := k1.cell
      have ckb1 := kb1.cell
      have KB := Lib.hid kb1
      have B1 := Lib.hid b1
      have HUV := Lib.hid huv
      clear k1 kb1 b1 huv
      by_cases hxy : u = x ∧ v = y ∧ t = z
      · obtain ⟨rfl, rfl, rfl⟩ := hxy
        have hmem : decide ((u, v, t) ∈ l) = true := decide_eq_true (List.mem_of_getElem? HUV.out)
        have HM := Lib.hid hmem
        clear hmem
        go_wp2_with fail
        go_ret
        exact ⟨ret_bool HM.out.symm, B1.out⟩
      · have HXY := Lib.hid hxy
        have HNO : Hid (∀ j, j < k + 1 → l[j]? ≠ some (x, y, z)) := Lib.hid (fun j hj => by
          rcases (show j < k ∨ j = k by omega) with h1 | rfl
          · exact hno.out j h1
          · rw [HUV.out]
            intro h2
            have h3 := Option.some.inj h2
            exact HXY.out ⟨congrArg Prod.fst h3, congrArg (fun q => q.2.1) h3, congrArg (fun q => q.2.2) h3⟩)
        clear hxy
        by_cases hux : u = x
        · subst hux
          by_cases hvy : v = y
          · subst hvy
            have htz : ¬ t = z := fun h => HXY.out ⟨rfl, rfl, h⟩
            go_wp2_with fail
            refine ⟨⟨k + 1, by go_num, by omega, HNO, KB, Lib.hid B1.out⟩, ?_⟩
            simp [intOf]; omega
          · go_wp2_with fail
            refine ⟨⟨k + 1, by go_num, by omega, HNO, KB, Lib.hid B1.out⟩, ?_⟩
            simp [intOf]; omega
        · go_wp2_with fail
          refine ⟨⟨k + 1, by go_num, by omega, HNO, KB, Lib.hid B1.out⟩, ?_⟩
          simp [intOf]; omega
    · obtain rfl : k = l.length := by omega
      have hmem : decide ((x, y, z) ∈ l) = false := decide_eq_false fun h => by
        obtain ⟨j, hj⟩ := List.getElem?_of_mem h
        exact hno.out j (by rcases Nat.lt_or_ge j l.length with h1 | h1; exact h1; rw [List.getElem?_eq_none h1] at hj; cases hj) hj
      have HM := Lib.hid hmem
      clear hmem
      go_wp2
      go_ret
      exact ⟨ret_bool HM.out.symm, hbel.out⟩
end Go.Proofs.Ytemnkfigjpphgaa

/-
  Contents of forms.
-/
namespace Go.Proofs.Ytemnkfigjpphgaa
open Go.RowKit
attribute [local simp, local go_sem] past_cell past_frozen past_tape
/-- The greatest common divisor of three integers. -/
def gcd3 (a b c : Int) : Int := (Int.gcd a (Int.gcd b c) : Int)
theorem gcd_J {a b : Int} (ha : J64 a) (hb : J64 b) : J64 (Int.gcd a b : Int) := by
  obtain ⟨a1, a2⟩ := ha
  obtain ⟨b1, b2⟩ := hb
  by_cases h : a = 0
  · subst h; rw [Int.gcd_zero_left]; exact ⟨by omega, by omega⟩
  · have := Int.gcd_le_natAbs_left b h
    exact ⟨by omega, by omega⟩
theorem content_any (a b c : Int) (w : World) (ha : J64 a) (hb : J64 b) (hc : J64 c) :
    Calls Try.prog 95 #[.agg #[.int .i64 a, .int .i64 b, .int .i64 c]] w fun en w' => en = .returned (.int .i64 (gcd3 a b c)) ∧ Below w.heap.size w w' := by
  have hg := gcd_J hb hc
  go_enter Try.func95, Try.ntmps95
  go_wp2_with fail
  refine wp_region_past (by kernel_rfl) (by kernel_rfl) ?_
  repeat (first | go_big_quiet_skip | (go_big_quiet_want; go_big_quiet_op; first | go_big_quiet_on | (apply Exists.intro; refine ⟨fun _ => ?_, ?_⟩; (focus ((go_at_call 122; exact past_draws (gcd_any _ _ _ (by assumption) (by assumption))))); go_big_quiet_on)))
  refine wpQuiet_nil ?_
  intro w1 hw'
  have hB1 := past_below hw'
  clear hw'
  obtain ⟨hC1, hF1⟩ := bcell hB1
  have hS1 := hB1.size
  (try simp at hS1)
  (try have hS1_w0 : w.heap.size < w1.heap.size := by omega)
  (try have hS1_w1 : w.heap.size + 1 < w1.heap.size := by omega)
  (try have hS1_w2 : w.heap.size + 1 + 1 < w1.heap.size := by omega)
  (try have hS1_w3 : w.heap.size + 1 + 1 + 1 < w1.heap.size := by omega)
  (try have hS1_w4 : w.heap.size + 1 + 1 + 1 + 1 < w1.heap.size := by omega)
  go_wp2
  go_ret
  refine ⟨rfl, ?_⟩
  repeat (first | with_reducible exact Below.refl _ _ | with_reducible assumption | ((with_reducible refine blA ?_ ?_); (focus (first | omega | (simp <;> omega)))) | (with_reducible refine blD ?_) | (with_reducible refine blN ?_) | ((with_reducible refine blS ?_ ?_); (focus (first | omega | (simp <;> omega)))) | ((with_reducible refine blT (by assumption) ?_ ?_); (focus (first | omega | (simp <;> omega)))))
theorem foContent_any (a b c : Int) (w : World) (ha : J64 a) (hb : J64 b) (hc : J64 c) :
    Calls Try.prog 123 #[.agg #[.int .i64 a, .int .i64 b, .int .i64 c]] w fun en w' => en = .returned (.int .i64 (gcd3 a b c)) ∧ Below w.heap.size w w' := by
  have hg := gcd_J ha hb
  have he : Hid ((Int.gcd (Int.gcd a b : Int) c : Int) = gcd3 a b c) := by show _ = _; unfold gcd3; rw [Int.gcd_assoc]
  go_enter Try.func123, Try.ntmps123
  go_wp2_with fail
  refine wp_region_past (by kernel_rfl) (by kernel_rfl) ?_
  repeat (first | go_big_quiet_skip | (go_big_quiet_want; go_big_quiet_op; first | go_big_quiet_on | (apply Exists.intro; refine ⟨fun _ => ?_, ?_⟩; (focus ((go_at_call 129; exact past_draws (nuGcd_any _ _ _ (by assumption) (by assumption))))); go_big_quiet_on)))
  refine wpQuiet_nil ?_
  intro w1 hw'
  have hB1 := past_below hw'
  clear hw'
  obtain ⟨hC1, hF1⟩ := bcell hB1
  have hS1 := hB1.size
  (try simp at hS1)
  (try have hS1_w0 : w.heap.size < w1.heap.size := by omega)
  (try have hS1_w1 : w.heap.size + 1 < w1.heap.size := by omega)
  (try have hS1_w2 : w.heap.size + 1 + 1 < w1.heap.size := by omega)
  (try have hS1_w3 : w.heap.size + 1 + 1 + 1 < w1.heap.size := by omega)
  (try have hS1_w4 : w.heap.size + 1 + 1 + 1 + 1 < w1.heap.size := by omega)
  go_wp2
  go_ret
  refine ⟨ret_int he.out, ?_⟩
  repeat (first | with_reducible exact Below.refl _ _ | with_reducible assumption | ((with_reducible refine blA ?_ ?_); (focus (first | omega | (simp <;> omega)))) | (with_reducible refine blD ?_) | (with_reducible refine blN ?_) | ((with_reducible refine blS ?_ ?_); (focus (first | omega | (simp <;> omega)))) | ((with_reducible refine blT (by assumption) ?_ ?_); (focus (first | omega | (simp <;> omega)))))
end Go.Proofs.Ytemnkfigjpphgaa
