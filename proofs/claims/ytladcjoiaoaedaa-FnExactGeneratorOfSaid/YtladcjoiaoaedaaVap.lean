/-
  The reference's ordered lists of points: a point is put in. (Printed by mkva.py.)
-/
import Derived.Test.YtladcjoiaoaedaaVa
namespace Go.Proofs.Ytladcjoiaoaedaa
open Go.RowKit
attribute [local simp, local go_sem] past_cell past_frozen past_tape
def PutR (w : World) (l : List (Int × Int)) (p : Int × Int) (e : Ending) (w' : World) : Prop := (∃ v' l', e = .returned v' ∧ Rw w.heap.size 67 2 c2 w' v' l' ∧ l'.length = l.length + 1 ∧ ∀ z, z ∈ l' ↔ z ∈ l ∨ z = p) ∧ Below w.heap.size w w'
/-- A cell of a row, by its place in the flat list. -/
theorem flat_cell {w : World} {g : Nat} {l : List (Int × Int)} (h : ∀ (k : Nat) (x : Int × Int), l[k]? = some x → ∀ o, o < 2 → w.cell? ⟨g, k * 2 + o, none⟩ = (c2 x)[o]?) (j : Nat) (u : Value) (hu : (l.flatMap c2)[j]? = some u) : w.cell? ⟨g, j, none⟩ = some u := by
  have hj : j < l.length * 2 := by
    rw [← flat_length c2_len l]
    rcases Nat.lt_or_ge j (l.flatMap c2).length with h1 | h1
    · exact h1
    · rw [List.getElem?_eq_none h1] at hu; cases hu
  obtain ⟨x, hx⟩ : ∃ x, l[j / 2]? = some x := ⟨l[j / 2]'(by omega), List.getElem?_eq_getElem (by omega)⟩
  have e1 := h (j / 2) x hx (j % 2) (by omega)
  have e2 := flat_get c2_len l (j / 2) (j % 2) x hx (by omega)
  rw [show j / 2 * 2 + j % 2 = j by omega] at e1 e2
  rw [e1, ← e2, hu]
theorem add_at (g i j : Nat) : (⟨g, i, none⟩ : Addr).add j = ⟨g, i + j, none⟩ := by
  unfold Addr.add
  split <;> simp_all
theorem take_cell {w : World} {g : Nat} {l : List (Int × Int)} (h : ∀ j u, (l.flatMap c2)[j]? = some u → w.cell? ⟨g, j, none⟩ = some u) (k : Nat) (j : Nat) (u : Value) (hu : ((l.take k).flatMap c2)[j]? = some u) : w.cell? ⟨g, j, none⟩ = some u := by
  refine h j u ?_
  have e : l.flatMap c2 = (l.take k).flatMap c2 ++ (l.drop k).flatMap c2 := by rw [← List.flatMap_append, List.take_append_drop]
  rw [e]
  have hj : j < ((l.take k).flatMap c2).length := by
    rcases Nat.lt_or_ge j ((l.take k).flatMap c2).length with h1 | h1
    · exact h1
    · rw [List.getElem?_eq_none h1] at hu; cases hu
  rw [List.getElem?_append_left hj]
  exact hu
theorem drop_cell {w : World} {g : Nat} {l : List (Int × Int)} (h : ∀ j u, (l.flatMap c2)[j]? = some u → w.cell? ⟨g, j, none⟩ = some u) (k : Nat) (hk : k ≤ l.length) (j : Nat) (u : Value) (hu : ((l.drop k).flatMap c2)[j]? = some u) : w.cell? ⟨g, k * 2 + j, none⟩ = some u := by
  refine h _ u ?_
  have e : l.flatMap c2 = (l.take k).flatMap c2 ++ (l.drop k).flatMap c2 := by rw [← List.flatMap_append, List.take_append_drop]
  have hl : ((l.take k).flatMap c2).length = k * 2 := by rw [flat_length c2_len, List.length_take, Nat.min_eq_left hk]
  rw [e, List.getElem?_append_right (by omega), hl, show k * 2 + j - k * 2 = j by omega]
  exact hu
theorem put_mem (l : List (Int × Int)) (p : Int × Int) (k : Nat) (z : Int × Int) : z ∈ l.take k ++ [p] ++ l.drop k ↔ z ∈ l ∨ z = p := by
  have h : z ∈ l ↔ z ∈ l.take k ∨ z ∈ l.drop k := by
    conv => lhs; rw [← List.take_append_drop k l]
    rw [List.mem_append]
  rw [h]
  simp only [List.mem_append, List.mem_singleton]
  constructor
  · rintro ((h | h) | h)
    · exact .inl (.inl h)
    · exact .inr h
    · exact .inl (.inr h)
  · rintro ((h | h) | h)
    · exact .inl (.inl h)
    · exact .inr h
    · exact .inl (.inr h)
theorem put_len (l : List (Int × Int)) (p : Int × Int) (k : Nat) (hk : k ≤ l.length) : (l.take k ++ [p] ++ l.drop k).length = l.length + 1 := by
  simp only [List.length_append, List.length_take, List.length_drop, List.length_singleton]
  omega
theorem below_row {w wr w' : World} {v : Value} {l : List (Int × Int)} (hb : Below w.heap.size w wr) (hr : Rw w.heap.size 67 2 c2 wr v l) (hg : wr.grownBy w' v.ownBlock) : Below w.heap.size w w' :=
  ⟨hg.os.trans hb.os, hg.tape.trans hb.tape, hg.output.trans hb.output, Nat.le_trans hb.size hg.size, fun k hk => (hg.block k (by have := hb.size; omega) (fun e => by have := (hr.lt k e.symm).1; omega)).trans (hb.block k hk)⟩
set_option maxRecDepth 100000 in
set_option maxHeartbeats 8000000 in
theorem vaPut_some (l : List (Int × Int)) (x y : Int) (g cap : Nat) (w : World) (hg : g < w.heap.size) (hc : ∀ (k : Nat) (x : Int × Int), l[k]? = some x → ∀ o, o < 2 → w.cell? ⟨g, k * 2 + o, none⟩ = (c2 x)[o]?) (hl : l.length ≤ 10000) (hcap : l.length ≤ cap) (hcm : cap ≤ maxLen) :
    Calls Try.prog 89 #[.slice (some ⟨g, 0, none⟩) l.length cap, .agg #[.int .i64 x, .int .i64 y]] w (PutR w l (x, y)) := by
  unfold maxLen at hcm
  have HC := Lib.hid hc
  clear hc
  go_enter Try.func89, Try.ntmps89
  go_wp2
  go_loopw [5] (fun i wr => ∃ k : Nat, i = .int .i64 (k : Int) ∧ k ≤ l.length ∧ Hid (Blk w.heap.size 67 #[.int .i64 x, .int .i64 y] wr) ∧ Hid (Below w.heap.size w wr)) (fun i _ => l.length - (intOf i).toNat)
  case atStart =>
    refine ⟨0, rfl, by omega, Lib.hid (Blk.new _ _ _), ?_⟩
    show Below _ _ _
    repeat (first | with_reducible exact Below.refl _ _ | with_reducible assumption | ((with_reducible refine blA ?_ ?_); (focus (first | omega | (simp <;> omega)))) | (with_reducible refine blD ?_) | (with_reducible refine blN ?_) | ((with_reducible refine blS ?_ ?_); (focus (first | omega | (simp <;> omega)))) | ((with_reducible refine blT (by assumption) ?_ ?_); (focus (first | omega | (simp <;> omega)))))
  case round =>
    obtain ⟨k, rfl, hk, hblk, hbel⟩ := hrel
    have hbs := hbel.out.size
    have cb := hblk.out.cell
    have lb := hblk.out.lt
    have hgr : g < wr.heap.size := by omega
    rcases Nat.lt_or_ge k l.length with hlt | hge
    · obtain ⟨⟨u, v⟩, huv⟩ : ∃ z, l[k]? = some z := ⟨l[k], List.getElem?_eq_getElem hlt⟩
      have cu : wr.cell? ⟨g, k * 2, none⟩ = some (.int .i64 u) := by have := HC.out k _ huv 0 (by omega); rw [bG hbel.out hg]; simpa [c2] using this
      have cv : wr.cell? ⟨g, k * 2 + 1, none⟩ = some (.int .i64 v) := by have := HC.out k _ huv 1 (by omega); rw [bG hbel.out hg]; simpa [c2] using this
      clear huv
      by_cases hux : u < x
      · go_wp2_with fail
        refine wp_region_past (by kernel_rfl) (by kernel_rfl) ?_
        repeat (first | go_big_quiet_skip | (go_big_quiet_want; go_big_quiet_op; first | go_big_quiet_on | (apply Exists.intro; refine ⟨fun _ => ?_, ?_⟩; (focus (fail)); go_big_quiet_on)))
        refine wpQuiet_nil ?_
        intro w1 hw'
        have hB1 := past_below hw'
        clear hw'
        obtain ⟨hC1, hF1⟩ := bcell hB1
        have hS1 := hB1.size
        (try simp at hS1)
        (try have hS1_w0 : w.heap.size < w1.heap.size := by omega)
        (try have hS1_w1 : w.heap.size + 1 < w1.heap.size := by omega)
        (try have hS1_w2 : w.heap.size + 1 + 1 < w1.heap.size := by omega)
        (try have hS1_w3 : w.heap.size + 1 + 1 + 1 < w1.heap.size := by omega)
        (try have hS1_w4 : w.heap.size + 1 + 1 + 1 + 1 < w1.heap.size := by omega)
        have hB9 := hbel.out.trans (hB1.mono hbs)
        have hK9 := hblk.out.below hB1
        clear hB1 hC1 hF1 cb cu cv
        go_wp2_with fail
        refine ⟨⟨k + 1, by go_num, by omega, Lib.hid hK9, Lib.hid hB9⟩, ?_⟩
        simp [intOf]; omega
      · have hux2 : decide (u < x) = false := decide_eq_false hux
        by_cases hue : u = x
        · by_cases hvy : v < y
          · go_wp2_with fail
            refine wp_region_past (by kernel_rfl) (by kernel_rfl) ?_
            repeat (first | go_big_quiet_skip | (go_big_quiet_want; go_big_quiet_op; first | go_big_quiet_on | (apply Exists.intro; refine ⟨fun _ => ?_, ?_⟩; (focus (fail)); go_big_quiet_on)))
            refine wpQuiet_nil ?_
            intro w2 hw'
            have hB2 := past_below hw'
            clear hw'
            obtain ⟨hC2, hF2⟩ := bcell hB2
            have hS2 := hB2.size
            (try simp at hS2)
            (try have hS2_w0 : w.heap.size < w2.heap.size := by omega)
            (try have hS2_w1 : w.heap.size + 1 < w2.heap.size := by omega)
            (try have hS2_w2 : w.heap.size + 1 + 1 < w2.heap.size := by omega)
            (try have hS2_w3 : w.heap.size + 1 + 1 + 1 < w2.heap.size := by omega)
            (try have hS2_w4 : w.heap.size + 1 + 1 + 1 + 1 < w2.heap.size := by omega)
            (try have hS2_1 : w1.heap.size < w2.heap.size := by omega)
            (try have hS2_1' : w1.heap.size + 1 < w2.heap.size := by omega)
            have hB9 := hbel.out.trans (hB2.mono hbs)
            have hK9 := hblk.out.below hB2
            clear hB2 hC2 hF2 cb cu cv
            go_wp2_with fail
            refine ⟨⟨k + 1, by go_num, by omega, Lib.hid hK9, Lib.hid hB9⟩, ?_⟩
            simp [intOf]; omega
          · go_wp2_with fail
            refine wp_region_past (by kernel_rfl) (by kernel_rfl) ?_
            repeat (first | go_big_quiet_skip | (go_big_quiet_want; go_big_quiet_op; first | go_big_quiet_on | (apply Exists.intro; refine ⟨fun _ => ?_, ?_⟩; (focus (fail)); go_big_quiet_on)))
            refine wpQuiet_nil ?_
            intro w3 hw'
            have hB3 := past_below hw'
            clear hw'
            obtain ⟨hC3, hF3⟩ := bcell hB3
            have hS3 := hB3.size
            (try simp at hS3)
            (try have hS3_w0 : w.heap.size < w3.heap.size := by omega)
            (try have hS3_w1 : w.heap.size + 1 < w3.heap.size := by omega)
            (try have hS3_w2 : w.heap.size + 1 + 1 < w3.heap.size := by omega)
            (try have hS3_w3 : w.heap.size + 1 + 1 + 1 < w3.heap.size := by omega)
            (try have hS3_w4 : w.heap.size + 1 + 1 + 1 + 1 < w3.heap.size := by omega)
            (try have hS3_1 : w1.heap.size < w3.heap.size := by omega)
            (try have hS3_2 : w2.heap.size < w3.heap.size := by omega)
            (try have hS3_1' : w1.heap.size + 1 < w3.heap.size := by omega)
            (try have hS3_2' : w2.heap.size + 1 < w3.heap.size := by omega)
            have hB9 := hbel.out.trans (hB3.mono hbs)
            have hK9 := hblk.out.below hB3
            clear hB3 hC3 hF3 cb cu cv
            have hc9 : ∀ j u, (l.flatMap c2)[j]? = some u → w3.cell? ⟨g, j, none⟩ = some u := fun j u hu => by rw [bG hB9 hg]; exact flat_cell HC.out j u hu
            have HC9 := Lib.hid hc9
            clear hc9
            have hz9 := hB9.size
            have hlk := hK9.lt
            obtain ⟨wa, ea, ka, ra, ba, za⟩ : ∃ wa, w3.alloc (.cells #[] 67) = wa ∧ Blk w.heap.size 67 #[.int .i64 x, .int .i64 y] wa ∧ Rw (w.heap.size + 1) 67 2 c2 wa (.slice (some ⟨w3.heap.size, 0, none⟩) 0 0) [] ∧ Below w.heap.size w wa ∧ wa.heap.size = w3.heap.size + 1 := ⟨_, rfl, hK9.alloc _, Rw.empty (by omega), hB9.alloc (by omega) _, by simp⟩
            have hca : ∀ j u, (l.flatMap c2)[j]? = some u → wa.cell? ⟨g, j, none⟩ = some u := fun j u hu => by rw [← ea, cell_alloc_old _ _ _ _ (by omega)]; exact HC9.out j u hu
            have HCA := Lib.hid hca
            clear hca
            have hk1 : (k : Int) ≤ (cap : Int) := by omega
            go_wp2_with (at_builtin; go_loud (refine app_rws (ra) (by rfl) _ _ _ (by rfl) (by kernel_rfl) (by rfl) ⟨g, 0, none⟩ k cap (l.take k) (by rfl) (by rw [List.length_take, Nat.min_eq_left hk]) (fun j u hu => by rw [add_at, Nat.zero_add]; exact take_cell HCA.out k j u hu) (by simp; omega) (by first | omega | (simp; omega)) ?_))
            intro v1 wb hr1 hg1 hat1
            have kb := ka.grown hg1 (fun e => by have := (ra.lt _ e.symm).1; omega)
            have bb := below_row ba (ra.mono (by omega)) hg1
            have zb := hg1.size
            have hcb : ∀ j u, (l.flatMap c2)[j]? = some u → wb.cell? ⟨g, j, none⟩ = some u := fun j u hu => by rw [bG bb hg]; exact flat_cell HC.out j u hu
            have HCB := Lib.hid hcb
            have ckb := kb.cell
            have lkb := kb.lt
            clear hcb ka hg1 HCA ra
            have hlen1 : ([] ++ l.take k).length ≤ 10000 := by rw [List.nil_append, List.length_take]; omega
            obtain ⟨wc, ec, kc, rc, bc, pc, zc⟩ : ∃ wc, wb.alloc (.cells #[.int .i64 x, .int .i64 y] 67) = wc ∧ Blk w.heap.size 67 #[.int .i64 x, .int .i64 y] wc ∧ Rw (w.heap.size + 1) 67 2 c2 wc v1 ([] ++ l.take k) ∧ Below w.heap.size w wc ∧ Blk wb.heap.size 67 #[.int .i64 x, .int .i64 y] wc ∧ wc.heap.size = wb.heap.size + 1 := ⟨_, rfl, kb.alloc _, hr1.alloc _, bb.alloc (by omega) _, Blk.new _ _ _, by simp⟩
            have hcc : ∀ j u, (l.flatMap c2)[j]? = some u → wc.cell? ⟨g, j, none⟩ = some u := fun j u hu => by rw [bG bc hg]; exact flat_cell HC.out j u hu
            have HCC := Lib.hid hcc
            have PC := Lib.hid pc
            have RC := Lib.hid rc
            clear hcc pc rc hr1 HCB kb
            go_wp2_with (at_builtin; go_loud (refine app_rws (RC.out) (by rfl) _ _ _ (by rfl) (by kernel_rfl) (by rfl) ⟨wb.heap.size, 0, none⟩ 1 1 ([(x, y)]) (by rfl) (rfl) (fun j u hu => by rw [add_at, Nat.zero_add, PC.out.cell]; simpa [c2] using hu) (by omega) (by first | omega | (simp; omega)) ?_))
            intro v2 wd hr2 hg2 hat2
            have bd := below_row bc (RC.out.mono (by omega)) hg2
            have zd := hg2.size
            have hcd : ∀ j u, (l.flatMap c2)[j]? = some u → wd.cell? ⟨g, j, none⟩ = some u := fun j u hu => by rw [bG bd hg]; exact flat_cell HC.out j u hu
            have HCD := Lib.hid hcd
            have RD := Lib.hid hr2
            have hlen2 : (l.take k ++ [(x, y)]).length + (l.length - k) ≤ 10001 := by rw [List.length_append, List.length_take, List.length_singleton]; omega
            clear hcd hr2 hg2 hat2 hat1 HCC RC PC kc ckb hlen1
            have hkc : ¬ cap = k := by omega
            go_wp2_with (at_builtin; go_loud (refine app_rws (RD.out) (by rfl) _ _ _ (by rfl) (by kernel_rfl) (by rfl) ⟨g, k * 2, none⟩ (l.length - k) (cap - k) (l.drop k) (by rfl) (List.length_drop ..) (fun j u hu => by rw [add_at]; exact drop_cell HCD.out k hk j u hu) (by omega) (by first | omega | (simp; omega)) ?_))
            intro v3 we hr3 hg3 hat3
            have be := below_row bd (RD.out.mono (by omega)) hg3
            have hl3 : l.take k ++ [(x, y)] ++ l.drop k = l.take k ++ [(x, y)] ++ l.drop k := by rfl
            try rw [hl3] at hr3
            go_wp2
            go_ret
            refine ⟨⟨v3, _, rfl, hr3.mono (by omega), ?_, ?_⟩, be⟩
            · have := put_len l (x, y) k hk
              simpa using this
            · intro z
              have := put_mem l (x, y) k z
              simpa using this
        · have hue2 : decide (u = x) = false := decide_eq_false hue
          have hue3 : (u == x) = false := by simp [hue]
          go_wp2_with fail
          refine wp_region_past (by kernel_rfl) (by kernel_rfl) ?_
          repeat (first | go_big_quiet_skip | (go_big_quiet_want; go_big_quiet_op; first | go_big_quiet_on | (apply Exists.intro; refine ⟨fun _ => ?_, ?_⟩; (focus (fail)); go_big_quiet_on)))
          refine wpQuiet_nil ?_
          intro w4 hw'
          have hB4 := past_below hw'
          clear hw'
          obtain ⟨hC4, hF4⟩ := bcell hB4
          have hS4 := hB4.size
          (try simp at hS4)
          (try have hS4_w0 : w.heap.size < w4.heap.size := by omega)
          (try have hS4_w1 : w.heap.size + 1 < w4.heap.size := by omega)
          (try have hS4_w2 : w.heap.size + 1 + 1 < w4.heap.size := by omega)
          (try have hS4_w3 : w.heap.size + 1 + 1 + 1 < w4.heap.size := by omega)
          (try have hS4_w4 : w.heap.size + 1 + 1 + 1 + 1 < w4.heap.size := by omega)
          (try have hS4_1 : w1.heap.size < w4.heap.size := by omega)
          (try have hS4_2 : w2.heap.size < w4.heap.size := by omega)
          (try have hS4_3 : w3.heap.size < w4.heap.size := by omega)
          (try have hS4_1' : w1.heap.size + 1 < w4.heap.size := by omega)
          (try have hS4_2' : w2.heap.size + 1 < w4.heap.size := by omega)
          (try have hS4_3' : w3.heap.size + 1 < w4.heap.size := by omega)
          have hB9 := hbel.out.trans (hB4.mono hbs)
          have hK9 := hblk.out.below hB4
          clear hB4 hC4 hF4 cb cu cv
          have hc9 : ∀ j u, (l.flatMap c2)[j]? = some u → w4.cell? ⟨g, j, none⟩ = some u := fun j u hu => by rw [bG hB9 hg]; exact flat_cell HC.out j u hu
          have HC9 := Lib.hid hc9
          clear hc9
          have hz9 := hB9.size
          have hlk := hK9.lt
          obtain ⟨wa, ea, ka, ra, ba, za⟩ : ∃ wa, w4.alloc (.cells #[] 67) = wa ∧ Blk w.heap.size 67 #[.int .i64 x, .int .i64 y] wa ∧ Rw (w.heap.size + 1) 67 2 c2 wa (.slice (some ⟨w4.heap.size, 0, none⟩) 0 0) [] ∧ Below w.heap.size w wa ∧ wa.heap.size = w4.heap.size + 1 := ⟨_, rfl, hK9.alloc _, Rw.empty (by omega), hB9.alloc (by omega) _, by simp⟩
          have hca : ∀ j u, (l.flatMap c2)[j]? = some u → wa.cell? ⟨g, j, none⟩ = some u := fun j u hu => by rw [← ea, cell_alloc_old _ _ _ _ (by omega)]; exact HC9.out j u hu
          have HCA := Lib.hid hca
          clear hca
          have hk1 : (k : Int) ≤ (cap : Int) := by omega
          go_wp2_with (at_builtin; go_loud (refine app_rws (ra) (by rfl) _ _ _ (by rfl) (by kernel_rfl) (by rfl) ⟨g, 0, none⟩ k cap (l.take k) (by rfl) (by rw [List.length_take, Nat.min_eq_left hk]) (fun j u hu => by rw [add_at, Nat.zero_add]; exact take_cell HCA.out k j u hu) (by simp; omega) (by first | omega | (simp; omega)) ?_))
          intro v1 wb hr1 hg1 hat1
          have kb := ka.grown hg1 (fun e => by have := (ra.lt _ e.symm).1; omega)
          have bb := below_row ba (ra.mono (by omega)) hg1
          have zb := hg1.size
          have hcb : ∀ j u, (l.flatMap c2)[j]? = some u → wb.cell? ⟨g, j, none⟩ = some u := fun j u hu => by rw [bG bb hg]; exact flat_cell HC.out j u hu
          have HCB := Lib.hid hcb
          have ckb := kb.cell
          have lkb := kb.lt
          clear hcb ka hg1 HCA ra
          have hlen1 : ([] ++ l.take k).length ≤ 10000 := by rw [List.nil_append, List.length_take]; omega
          obtain ⟨wc, ec, kc, rc, bc, pc, zc⟩ : ∃ wc, wb.alloc (.cells #[.int .i64 x, .int .i64 y] 67) = wc ∧ Blk w.heap.size 67 #[.int .i64 x, .int .i64 y] wc ∧ Rw (w.heap.size + 1) 67 2 c2 wc v1 ([] ++ l.take k) ∧ Below w.heap.size w wc ∧ Blk wb.heap.size 67 #[.int .i64 x, .int .i64 y] wc ∧ wc.heap.size = wb.heap.size + 1 := ⟨_, rfl, kb.alloc _, hr1.alloc _, bb.alloc (by omega) _, Blk.new _ _ _, by simp⟩
          have hcc : ∀ j u, (l.flatMap c2)[j]? = some u → wc.cell? ⟨g, j, none⟩ = some u := fun j u hu => by rw [bG bc hg]; exact flat_cell HC.out j u hu
          have HCC := Lib.hid hcc
          have PC := Lib.hid pc
          have RC := Lib.hid rc
          clear hcc pc rc hr1 HCB kb
          go_wp2_with (at_builtin; go_loud (refine app_rws (RC.out) (by rfl) _ _ _ (by rfl) (by kernel_rfl) (by rfl) ⟨wb.heap.size, 0, none⟩ 1 1 ([(x, y)]) (by rfl) (rfl) (fun j u hu => by rw [add_at, Nat.zero_add, PC.out.cell]; simpa [c2] using hu) (by omega) (by first | omega | (simp; omega)) ?_))
          intro v2 wd hr2 hg2 hat2
          have bd := below_row bc (RC.out.mono (by omega)) hg2
          have zd := hg2.size
          have hcd : ∀ j u, (l.flatMap c2)[j]? = some u → wd.cell? ⟨g, j, none⟩ = some u := fun j u hu => by rw [bG bd hg]; exact flat_cell HC.out j u hu
          have HCD := Lib.hid hcd
          have RD := Lib.hid hr2
          have hlen2 : (l.take k ++ [(x, y)]).length + (l.length - k) ≤ 10001 := by rw [List.length_append, List.length_take, List.length_singleton]; omega
          clear hcd hr2 hg2 hat2 hat1 HCC RC PC kc ckb hlen1
          have hkc : ¬ cap = k := by omega
          go_wp2_with (at_builtin; go_loud (refine app_rws (RD.out) (by rfl) _ _ _ (by rfl) (by kernel_rfl) (by rfl) ⟨g, k * 2, none⟩ (l.length - k) (cap - k) (l.drop k) (by rfl) (List.length_drop ..) (fun j u hu => by rw [add_at]; exact drop_cell HCD.out k hk j u hu) (by omega) (by first | omega | (simp; omega)) ?_))
          intro v3 we hr3 hg3 hat3
          have be := below_row bd (RD.out.mono (by omega)) hg3
          have hl3 : l.take k ++ [(x, y)] ++ l.drop k = l.take k ++ [(x, y)] ++ l.drop k := by rfl
          try rw [hl3] at hr3
          go_wp2
          go_ret
          refine ⟨⟨v3, _, rfl, hr3.mono (by omega), ?_, ?_⟩, be⟩
          · have := put_len l (x, y) k hk
            simpa using this
          · intro z
            have := put_mem l (x, y) k z
            simpa using this
    · have HKL : Hid (k = l.length) := Lib.hid (by omega)
      have hkn : decide (k < l.length) = false := decide_eq_false (by omega)
      clear hge
      go_wp2_with fail
      refine wp_region_past (by kernel_rfl) (by kernel_rfl) ?_
      repeat (first | go_big_quiet_skip | (go_big_quiet_want; go_big_quiet_op; first | go_big_quiet_on | (apply Exists.intro; refine ⟨fun _ => ?_, ?_⟩; (focus (fail)); go_big_quiet_on)))
      refine wpQuiet_nil ?_
      intro w5 hw'
      have hB5 := past_below hw'
      clear hw'
      obtain ⟨hC5, hF5⟩ := bcell hB5
      have hS5 := hB5.size
      (try simp at hS5)
      (try have hS5_w0 : w.heap.size < w5.heap.size := by omega)
      (try have hS5_w1 : w.heap.size + 1 < w5.heap.size := by omega)
      (try have hS5_w2 : w.heap.size + 1 + 1 < w5.heap.size := by omega)
      (try have hS5_w3 : w.heap.size + 1 + 1 + 1 < w5.heap.size := by omega)
      (try have hS5_w4 : w.heap.size + 1 + 1 + 1 + 1 < w5.heap.size := by omega)
      (try have hS5_1 : w1.heap.size < w5.heap.size := by omega)
      (try have hS5_2 : w2.heap.size < w5.heap.size := by omega)
      (try have hS5_3 : w3.heap.size < w5.heap.size := by omega)
      (try have hS5_4 : w4.heap.size < w5.heap.size := by omega)
      (try have hS5_1' : w1.heap.size + 1 < w5.heap.size := by omega)
      (try have hS5_2' : w2.heap.size + 1 < w5.heap.size := by omega)
      (try have hS5_3' : w3.heap.size + 1 < w5.heap.size := by omega)
      (try have hS5_4' : w4.heap.size + 1 < w5.heap.size := by omega)
      have hB9 := hbel.out.trans (hB5.mono hbs)
      have hK9 := hblk.out.below hB5
      clear hB5 hC5 hF5 cb
      have hc9 : ∀ j u, (l.flatMap c2)[j]? = some u → w5.cell? ⟨g, j, none⟩ = some u := fun j u hu => by rw [bG hB9 hg]; exact flat_cell HC.out j u hu
      have HC9 := Lib.hid hc9
      clear hc9
      have hz9 := hB9.size
      have hlk := hK9.lt
      obtain ⟨wa, ea, ka, ra, ba, za⟩ : ∃ wa, w5.alloc (.cells #[] 67) = wa ∧ Blk w.heap.size 67 #[.int .i64 x, .int .i64 y] wa ∧ Rw (w.heap.size + 1) 67 2 c2 wa (.slice (some ⟨w5.heap.size, 0, none⟩) 0 0) [] ∧ Below w.heap.size w wa ∧ wa.heap.size = w5.heap.size + 1 := ⟨_, rfl, hK9.alloc _, Rw.empty (by omega), hB9.alloc (by omega) _, by simp⟩
      have hca : ∀ j u, (l.flatMap c2)[j]? = some u → wa.cell? ⟨g, j, none⟩ = some u := fun j u hu => by rw [← ea, cell_alloc_old _ _ _ _ (by omega)]; exact HC9.out j u hu
      have HCA := Lib.hid hca
      clear hca
      have hk1 : (k : Int) ≤ (cap : Int) := by omega
      go_wp2_with (at_builtin; go_loud (refine app_rws (ra) (by rfl) _ _ _ (by rfl) (by kernel_rfl) (by rfl) ⟨g, 0, none⟩ k cap (l.take k) (by rfl) (by rw [List.length_take, Nat.min_eq_left hk]) (fun j u hu => by rw [add_at, Nat.zero_add]; exact take_cell HCA.out k j u hu) (by simp; omega) (by first | omega | (simp; omega)) ?_))
      intro v1 wb hr1 hg1 hat1
      have kb := ka.grown hg1 (fun e => by have := (ra.lt _ e.symm).1; omega)
      have bb := below_row ba (ra.mono (by omega)) hg1
      have zb := hg1.size
      have hcb : ∀ j u, (l.flatMap c2)[j]? = some u → wb.cell? ⟨g, j, none⟩ = some u := fun j u hu => by rw [bG bb hg]; exact flat_cell HC.out j u hu
      have HCB := Lib.hid hcb
      have ckb := kb.cell
      have lkb := kb.lt
      clear hcb ka hg1 HCA ra
      have hlen1 : ([] ++ l.take k).length ≤ 10000 := by rw [List.nil_append, List.length_take]; omega
      obtain ⟨wc, ec, kc, rc, bc, pc, zc⟩ : ∃ wc, wb.alloc (.cells #[.int .i64 x, .int .i64 y] 67) = wc ∧ Blk w.heap.size 67 #[.int .i64 x, .int .i64 y] wc ∧ Rw (w.heap.size + 1) 67 2 c2 wc v1 ([] ++ l.take k) ∧ Below w.heap.size w wc ∧ Blk wb.heap.size 67 #[.int .i64 x, .int .i64 y] wc ∧ wc.heap.size = wb.heap.size + 1 := ⟨_, rfl, kb.alloc _, hr1.alloc _, bb.alloc (by omega) _, Blk.new _ _ _, by simp⟩
      have hcc : ∀ j u, (l.flatMap c2)[j]? = some u → wc.cell? ⟨g, j, none⟩ = some u := fun j u hu => by rw [bG bc hg]; exact flat_cell HC.out j u hu
      have HCC := Lib.hid hcc
      have PC := Lib.hid pc
      have RC := Lib.hid rc
      clear hcc pc rc hr1 HCB kb
      go_wp2_with (at_builtin; go_loud (refine app_rws (RC.out) (by rfl) _ _ _ (by rfl) (by kernel_rfl) (by rfl) ⟨wb.heap.size, 0, none⟩ 1 1 ([(x, y)]) (by rfl) (rfl) (fun j u hu => by rw [add_at, Nat.zero_add, PC.out.cell]; simpa [c2] using hu) (by omega) (by first | omega | (simp; omega)) ?_))
      intro v2 wd hr2 hg2 hat2
      have bd := below_row bc (RC.out.mono (by omega)) hg2
      have zd := hg2.size
      have hcd : ∀ j u, (l.flatMap c2)[j]? = some u → wd.cell? ⟨g, j, none⟩ = some u := fun j u hu => by rw [bG bd hg]; exact flat_cell HC.out j u hu
      have HCD := Lib.hid hcd
      have RD := Lib.hid hr2
      have hlen2 : (l.take k ++ [(x, y)]).length + (l.length - k) ≤ 10001 := by rw [List.length_append, List.length_take, List.length_singleton]; omega
      clear hcd hr2 hg2 hat2 hat1 HCC RC PC kc ckb hlen1
      by_cases hkc : cap = k
      · go_wp2_with (at_builtin; go_loud (refine app_rws (RD.out) (by rfl) _ _ _ (by rfl) (by kernel_rfl) (by rfl) ⟨g, 0, none⟩ (l.length - k) 0 ([]) (by rfl) (by have := HKL.out; simp; omega) (fun j u hu => by simp at hu) (by omega) (by first | omega | (simp; omega)) ?_))
        intro v3 we hr3 hg3 hat3
        have be := below_row bd (RD.out.mono (by omega)) hg3
        have hl3 : l.take k ++ [(x, y)] ++ [] = l.take k ++ [(x, y)] ++ l.drop k := by rw [List.drop_eq_nil_of_le (by have := HKL.out; omega)]
        try rw [hl3] at hr3
        go_wp2
        go_ret
        refine ⟨⟨v3, _, rfl, hr3.mono (by omega), ?_, ?_⟩, be⟩
        · have := put_len l (x, y) k hk
          rw [List.drop_eq_nil_of_le (by have := HKL.out; omega)] at this
          simpa using this
        · intro z
          have := put_mem l (x, y) k z
          rw [List.drop_eq_nil_of_le (by have := HKL.out; omega)] at this
          simpa using this
      · go_wp2_with (at_builtin; go_loud (refine app_rws (RD.out) (by rfl) _ _ _ (by rfl) (by kernel_rfl) (by rfl) ⟨g, k * 2, none⟩ (l.length - k) (cap - k) (l.drop k) (by rfl) (List.length_drop ..) (fun j u hu => by rw [add_at]; exact drop_cell HCD.out k hk j u hu) (by omega) (by first | omega | (simp; omega)) ?_))
        intro v3 we hr3 hg3 hat3
        have be := below_row bd (RD.out.mono (by omega)) hg3
        have hl3 : l.take k ++ [(x, y)] ++ l.drop k = l.take k ++ [(x, y)] ++ l.drop k := by rfl
        try rw [hl3] at hr3
        go_wp2
        go_ret
        refine ⟨⟨v3, _, rfl, hr3.mono (by omega), ?_, ?_⟩, be⟩
        · have := put_len l (x, y) k hk
          simpa using this
        · intro z
          have := put_mem l (x, y) k z
          simpa using this
end Go.Proofs.Ytladcjoiaoaedaa
