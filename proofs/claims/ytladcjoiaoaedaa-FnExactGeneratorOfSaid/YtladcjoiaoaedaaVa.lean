/-
  The reference's ordered lists of points: a point is looked for and put in.
-/
import Derived.Test.YtladcjoiaoaedaaRwsL
import Derived.Test.YtladcjoiaoaedaaBlk
import Derived.Test.YtladcjoiaoaedaaTail
namespace Go.Proofs.Ytladcjoiaoaedaa
open Go.RowKit
attribute [local simp, local go_sem] past_cell past_frozen past_tape
def c2 (x : Int × Int) : List Value := [.int .i64 x.1, .int .i64 x.2]
theorem c2_len (x : Int × Int) : (c2 x).length = 2 := rfl
theorem c2_one (x : Int × Int) : ∀ u ∈ c2 x, u.oneCell' = true := by intro u hu; simp [c2] at hu; rcases hu with rfl | rfl <;> rfl
/-- Many elements are appended at once. -/
theorem app_rws {ops : Array Oper} {rest : List Oper} {o : Oper} {a : Act} {Q : Exit → Act → World → Prop} {w : World} {B : Nat} {v : Value} {l : List (Int × Int)} (hown : Rw B 67 2 c2 w v l) (hgd : o.guard = none) (sl x : Operand) (T : TypeId)
    (ho : o.op = .call { callee := .builtin .append, args := #[sl, x], argTypes := #[T, T] }) (ht : Try.prog.underlying T = some (.slice 67)) (hv : a.eval sl = v) (ad : Addr) (m c : Nat) (ys : List (Int × Int)) (hx : a.eval x = .slice (some ad) m c) (hm : ys.length = m)
    (hh : ∀ j u, (ys.flatMap c2)[j]? = some u → w.cell? (ad.add j) = some u) (hl : l.length + m ≤ 1000000) (hB : B ≤ w.heap.size)
    (K : ∀ v' w', Rw B 67 2 c2 w' v' (l ++ ys) → w.grownBy w' v.ownBlock → (v'.ownBlock = v.ownBlock ∨ v'.ownBlock = some w.heap.size) → wpList Try.prog ops Q rest (a.put o.dst v') w') : wpList Try.prog ops Q (o :: rest) a w := by
  have hinf : (Try.prog.info? 67).map (fun i => (i.zero, i.size, i.bytes)) = some (some (.agg #[.int .i64 0, .int .i64 0]), 2, 16) := by kernel_rfl
  obtain ⟨i, hi1, hz, hsz, hby1⟩ := info_parts hinf
  refine wpList_append_own_at w hgd sl x T ho B 67 i (.agg #[.int .i64 0, .int .i64 0]) 2 16 ht hi1 hz hsz hby1 rfl (by omega) v l.length (l.flatMap c2) hv hown ad m c (ys.flatMap c2) hx (by rw [flat_length c2_len, hm]) hh (fun u hu => ?_) (by unfold maxLen; omega) ?_ hB ?_
  · obtain ⟨y, _, hy⟩ := List.mem_flatMap.1 hu
    exact c2_one y u hy
  · have : (l.length + m) * 16 ≤ 1000001 * 16 := Nat.mul_le_mul (by omega) (Nat.le_refl _)
    omega
  · intro v' w' h1 h2 _ h4
    refine K v' w' ?_ h2 h4
    unfold Rw
    rw [List.length_append, List.flatMap_append, hm]
    exact h1
/-- Nothing is appended. -/
theorem run_append_none {P : Program} (w : World) (t ty e : TypeId) (i : TypeInfo) (ht : P.underlying t = some (.slice e)) (hi : P.info? e = some i) (g : Nat) (n cap : Nat) (h : n ≤ cap) :
    (Builtin.append_ #[t, t] ty #[.slice (some ⟨g, 0, none⟩) n cap, .slice none 0 0]).run P w = .ok (.slice (some ⟨g, 0, none⟩) n cap) w := by
  simp [Builtin.append_, run_underlying ht, sizeOf, typeInfo, hi, Builtin.lenOf, Builtin.firstCells, loadCells, loadCellsFrom, h, storeCells]
/-- A point is looked for. -/
theorem vaHas_any (l : List (Int × Int)) (p : Int × Int) (a : Option Addr) (cap : Nat) (B : Nat) (w : World) (hs : Sees B 2 c2 w a l) (hl : l.length ≤ 1000000) :
    Calls Try.prog 88 #[.slice a l.length cap, .agg #[.int .i64 p.1, .int .i64 p.2]] w fun en w' => en = .returned (.bool (decide (p ∈ l))) ∧ Below w.heap.size w w' := by
  obtain ⟨x, y⟩ := p
  go_enter Try.func88, Try.ntmps88
  go_wp2
  go_loopw [9] (fun i wr => ∃ k : Nat, i = .int .i64 (k : Int) ∧ k ≤ l.length ∧ Hid (∀ j, j < k → l[j]? ≠ some (x, y)) ∧ Hid (Blk w.heap.size 67 #[.int .i64 x, .int .i64 y] wr) ∧ Hid (Below w.heap.size w wr)) (fun i _ => l.length - (intOf i).toNat)
  case atStart =>
    refine ⟨0, rfl, by omega, Lib.hid (fun j hj => by omega), Lib.hid (Blk.new _ _ _), ?_⟩
    show Below _ _ _
    repeat (first | with_reducible exact Below.refl _ _ | with_reducible assumption | ((with_reducible refine blA ?_ ?_); (focus (first | omega | (simp <;> omega)))) | (with_reducible refine blD ?_) | (with_reducible refine blN ?_) | ((with_reducible refine blS ?_ ?_); (focus (first | omega | (simp <;> omega)))) | ((with_reducible refine blT (by assumption) ?_ ?_); (focus (first | omega | (simp <;> omega)))))
  case round =>
    obtain ⟨k, rfl, hk, hno, hblk, hbel⟩ := hrel
    have hbs := hbel.out.size
    rcases Nat.lt_or_ge k l.length with hlt | hge
    · obtain ⟨⟨u, v⟩, huv⟩ : ∃ z, l[k]? = some z := ⟨l[k], List.getElem?_eq_getElem hlt⟩
      have HS : Sees B 2 c2 wr a l := by
        rcases hs with h0 | ⟨g, h1, h2, h3, h4, h5⟩
        · omega
        · exact .inr ⟨g, h1, h2, by omega, fun k x hx o ho => by rw [bG hbel.out h3, h4 k x hx o ho], fun o => by rw [fG hbel.out h3, h5]⟩
      rcases HS with h0 | ⟨g, rfl, hg1, hg2, hg3, hg4⟩
      · omega
      have cu : wr.cell? ⟨g, k * 2, none⟩ = some (.int .i64 u) := by have := hg3 k _ huv 0 (by omega); simpa [c2] using this
      have cv : wr.cell? ⟨g, k * 2 + 1, none⟩ = some (.int .i64 v) := by have := hg3 k _ huv 1 (by omega); simpa [c2] using this
      have cb := hblk.out.cell
      have lb := hblk.out.lt
      clear hg3 hg4 hs
      obtain ⟨w1, e1, k1, kb1, b1⟩ : ∃ w1, wr.alloc (.cells #[.int .i64 u, .int .i64 v] 67) = w1 ∧ Blk wr.heap.size 67 #[.int .i64 u, .int .i64 v] w1 ∧ Blk w.heap.size 67 #[.int .i64 x, .int .i64 y] w1 ∧ Below w.heap.size w w1 := ⟨_, rfl, Blk.new _ _ _, hblk.out.alloc _, hbel.out.alloc hbs _⟩
      have ck1 := k1.cell
      have ckb1 := kb1.cell
      have KB := Lib.hid kb1
      have B1 := Lib.hid b1
      have HUV := Lib.hid huv
      clear k1 kb1 b1 huv
      by_cases hxy : u = x ∧ v = y
      · obtain ⟨rfl, rfl⟩ := hxy
        have hmem : decide ((u, v) ∈ l) = true := decide_eq_true (List.mem_of_getElem? HUV.out)
        have HM := Lib.hid hmem
        clear hmem
        go_wp2_with fail
        go_ret
        exact ⟨ret_bool HM.out.symm, B1.out⟩
      · have hxy' : u = x → ¬ v = y := fun h1 h2 => hxy ⟨h1, h2⟩
        have HNO : Hid (∀ j, j < k + 1 → l[j]? ≠ some (x, y)) := Lib.hid (fun j hj => by
          rcases (show j < k ∨ j = k by omega) with h1 | rfl
          · exact hno.out j h1
          · rw [HUV.out]
            intro h2
            have h3 := Option.some.inj h2
            exact hxy ⟨congrArg Prod.fst h3, congrArg Prod.snd h3⟩)
        by_cases hux : u = x
        · have hvy := hxy' hux
          subst hux
          clear hxy hxy'
          go_wp2_with fail
          refine ⟨⟨k + 1, by go_num, by omega, HNO, KB, Lib.hid B1.out⟩, ?_⟩
          simp [intOf]; omega
        · clear hxy hxy'
          go_wp2_with fail
          refine ⟨⟨k + 1, by go_num, by omega, HNO, KB, Lib.hid B1.out⟩, ?_⟩
          simp [intOf]; omega
    · obtain rfl : k = l.length := by omega
      have hmem : decide ((x, y) ∈ l) = false := decide_eq_false fun h => by
        obtain ⟨j, hj⟩ := List.getElem?_of_mem h
        exact hno.out j (by rcases Nat.lt_or_ge j l.length with h1 | h1; exact h1; rw [List.getElem?_eq_none h1] at hj; cases hj) hj
      have HM := Lib.hid hmem
      clear hmem
      go_wp2
      go_ret
      exact ⟨ret_bool HM.out.symm, hbel.out⟩
end Go.Proofs.Ytladcjoiaoaedaa
