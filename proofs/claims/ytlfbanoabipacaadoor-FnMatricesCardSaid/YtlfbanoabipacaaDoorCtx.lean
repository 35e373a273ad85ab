/-
  The text of a cube, both ways; CubeText.
-/
import Derived.Test.YtlfbanoabipacaaDoorTxt
import Derived.Test.YtlfbanoabipacaaDoorShelf
import Derived.Test.YtlfbanoabipacaaDoorCube
import Derived.Test.YtlfbanoabipacaaDoorRwsL
import Derived.Lib.Join
namespace Go.Proofs.YtlfbanoabipacaaDoor
open Go.RowKit
attribute [local simp, local go_sem] past_cell past_frozen past_tape
def cS (x : List UInt8) : List Value := [.string ⟨x.toArray⟩]
theorem cS_len (x : List UInt8) : (cS x).length = 1 := rfl
theorem cS_one (x : List UInt8) : ∀ u ∈ cS x, u.oneCell' = true := by intro u hu; simp [cS] at hu; subst hu; rfl
/-- The table of powers of ten is as it was laid. -/
def Tab (w : World) : Prop := Lib.TabIs Tryd.prog w "internal/strconv.uint64pow10" .u64 Lib.pow10Tab
theorem globT : ∃ g, Tryd.prog.globalNamed "internal/strconv.uint64pow10" = some g := Option.isSome_iff_exists.1 (by kernel_rfl)
theorem Tab.below {w w' : World} (h : Tab w) (hb : Below w.heap.size w w') : Tab w' := by
  obtain ⟨g, hg⟩ := globT
  unfold Tab Lib.TabIs World.var? at h ⊢
  rw [hg] at h ⊢
  simp only [Option.bind_some] at h ⊢
  have hlt : g < w.heap.size := by
    rcases Nat.lt_or_ge g w.heap.size with h' | h'
    · exact h'
    · rw [Array.getElem?_eq_none h'] at h; cases h
  rw [hb.block g hlt]
  exact h
theorem below_growD (w : World) (k : Nat) (os : Array Obj) : Below w.heap.size w (Go.Sort.grow (w.drewN k) os) := by
  refine ⟨rfl, rfl, rfl, ?_, fun i hi => ?_⟩
  · show w.heap.size ≤ (w.heap ++ os).size
    rw [Array.size_append]
    omega
  · show (w.heap ++ os)[i]? = w.heap[i]?
    rw [Array.getElem?_append_left hi]
theorem itoa_any (n : Int) (w : World) (h : I64 n) (ht : Tab w) : Calls Tryd.prog 64 #[.int .i64 n] w fun en w' => en = .returned (.string ⟨(Lib.itoa n).toArray⟩) ∧ Below w.heap.size w w' :=
  (Tryd.strconv_Itoa n h.1 h.2 w ht).mono fun _ _ ⟨he, k, os, hw⟩ => ⟨he, by rw [hw]; exact below_growD w k os⟩
theorem app_str {ops : Array Oper} {rest : List Oper} {o : Oper} {a : Act} {Q : Exit → Act → World → Prop} {w : World} {B : Nat} {v : Value} {l : List (List UInt8)} (hown : Rw B 9 1 cS w v l) (hgd : o.guard = none) (sl x : Operand) (T : TypeId)
    (ho : o.op = .call { callee := .builtin .append, args := #[sl, x], argTypes := #[T, T] }) (ht : Tryd.prog.underlying T = some (.slice 9)) (hv : a.eval sl = v) (h : Nat) (y : List UInt8) (hx : a.eval x = .slice (some ⟨h, 0, none⟩) 1 1)
    (hh : w.heap[h]? = some (.cells #[.string ⟨y.toArray⟩] 9 (0, 0))) (hl : l.length ≤ 1000000) (hB : B ≤ w.heap.size)
    (K : ∀ v' w', Rw B 9 1 cS w' v' (l ++ [y]) → w.grownBy w' v.ownBlock → (v'.ownBlock = v.ownBlock ∨ v'.ownBlock = some w.heap.size) → wpList Tryd.prog ops Q rest (a.put o.dst v') w') : wpList Tryd.prog ops Q (o :: rest) a w :=
  app_rw w hgd sl x T ho ht (.string ⟨#[]⟩) 16 (by kernel_rfl) rfl (by decide) (by decide) cS_len cS_one v l hv hown h y hx hh hl hB K
theorem join_snoc (l : List (List UInt8)) (x sep : List UInt8) : Lib.join (l ++ [x]) sep = if l = [] then x else Lib.join l sep ++ (sep ++ x) := by
  cases l with
  | nil => rw [if_pos rfl]; exact Lib.join_one x sep
  | cons y r =>
    rw [if_neg (by simp), List.cons_append, Lib.join_cons, Lib.join_cons]
    simp [Lib.joinTail]
theorem itoa_len {n : Int} (h : Bd 1000000000000 n) : (Lib.itoa n).length ≤ 20 := by
  obtain ⟨h1, h2⟩ := h
  unfold Lib.itoa
  split
  · have := dec_size (u := n.natAbs) (by omega)
    simp
    omega
  · have := dec_size (u := n.toNat) (by omega)
    omega
/-- The text of numbers. -/
def jt (l : List Int) : List UInt8 := Lib.join (l.map Lib.itoa) [32]
theorem jt_len : ∀ l : List Int, (∀ x ∈ l, Bd 1000000000000 x) → (jt l).length ≤ 21 * l.length := by
  intro l h
  unfold jt
  cases l with
  | nil => simp [Lib.join_nil]
  | cons y r =>
    rw [List.map_cons, Lib.join_cons, List.length_append, Lib.joinTail_length]
    have h1 := itoa_len (h y (by simp))
    have h2 : ∀ r : List Int, (∀ x ∈ r, Bd 1000000000000 x) → Lib.lens (r.map Lib.itoa) ≤ 20 * r.length := by
      intro r hr
      induction r with
      | nil => simp [Lib.lens]
      | cons z r ih =>
        have e1 := itoa_len (hr z (by simp))
        have e2 := ih fun x hx => hr x (by simp [hx])
        simp only [Lib.lens, List.map_cons, List.sum_cons, List.length_cons] at e2 ⊢
        omega
    have := h2 r fun x hx => h x (by simp [hx])
    simp
    omega
theorem jt_snoc (l : List Int) (x : Int) : jt (l ++ [x]) = if l = [] then Lib.itoa x else jt l ++ ([32] ++ Lib.itoa x) := by
  unfold jt
  rw [List.map_append, List.map_cons, List.map_nil, join_snoc]
  cases l <;> simp
theorem take_snoc8 {l : List Int} {k : Nat} (h : k < l.length) : l.take (k + 1) = l.take k ++ [l.getD k 0] := by
  rw [List.take_succ_eq_append_getElem h]
  simp [List.getD_eq_getElem?_getD, h]
set_option maxRecDepth 100000 in
set_option maxHeartbeats 4000000 in
theorem implText_any (x0 x1 x2 x3 x4 x5 x6 x7 : Int) (w : World) (hc : cubeB x0 x1 x2 x3 x4 x5 x6 x7 = true) (ht : Tab w) :
    Calls Tryd.prog 31 #[.agg #[.int .i64 x0, .int .i64 x1, .int .i64 x2, .int .i64 x3, .int .i64 x4, .int .i64 x5, .int .i64 x6, .int .i64 x7]] w fun en w' => en = .returned (.string ⟨(jt [x0, x1, x2, x3, x4, x5, x6, x7]).toArray⟩) ∧ Below w.heap.size w w' := by
  have HT := Lib.hid ht
  have hall : ∀ k < 8, Bd 500 ([x0, x1, x2, x3, x4, x5, x6, x7].getD k 0) := by
    obtain ⟨b0, b1, b2, b3, b4, b5, b6, b7⟩ := cubeB_bd hc
    intro k hk
    match k, hk with
    | 0, _ => exact b0
    | 1, _ => exact b1
    | 2, _ => exact b2
    | 3, _ => exact b3
    | 4, _ => exact b4
    | 5, _ => exact b5
    | 6, _ => exact b6
    | 7, _ => exact b7
  have hix0 := index8 x0 x1 x2 x3 x4 x5 x6 x7
  obtain ⟨L, hLe⟩ : ∃ L : List Int, [x0, x1, x2, x3, x4, x5, x6, x7] = L := ⟨_, rfl⟩
  have hLn : L.length = 8 := by rw [← hLe]; rfl
  rw [hLe] at hall hix0 ⊢
  have HI := Lib.hid hix0
  have HA := Lib.hid hall
  have HL8 := Lib.hid hLn
  clear ht hall hix0 hLe hLn
  go_enter Tryd.func31, Tryd.ntmps31
  go_wp2_with (first | (go_at_call 63; refine (entries_any _ _ _ _ _ _ _ _ _).mono ?_; rintro e w' ⟨rfl, hB⟩; obtain ⟨hC, hF⟩ := bcell hB; have hS := hB.size; (try simp at hS); (try have hSl := Nat.lt_of_succ_le hS); (try have hS0 : w.heap.size < w'.heap.size := by omega); (try have hS1 : w.heap.size + 1 < w'.heap.size := by omega); (try have hS2 : w.heap.size + 1 + 1 < w'.heap.size := by omega); (try have hS3 : w.heap.size + 1 + 1 + 1 < w'.heap.size := by omega)))
  have HB0 := Lib.hid (show Below w.heap.size w w' by repeat (first | with_reducible exact Below.refl _ _ | with_reducible assumption | ((with_reducible refine blA ?_ ?_); (focus (first | omega | (simp <;> omega)))) | (with_reducible refine blD ?_) | (with_reducible refine blN ?_) | ((with_reducible refine blS ?_ ?_); (focus (first | omega | (simp <;> omega)))) | ((with_reducible refine blT (by assumption) ?_ ?_); (focus (first | omega | (simp <;> omega))))))
  have HR0 : Hid (Rw w.heap.size 9 1 cS w' (.slice (some ⟨w.heap.size + 1, 0, none⟩) 0 0) []) := Lib.hid (((Rw.empty2 (w := w.alloc (.cells #[.int .i64 x0, .int .i64 x1, .int .i64 x2, .int .i64 x3, .int .i64 x4, .int .i64 x5, .int .i64 x6, .int .i64 x7] 23)) (g := w.heap.size + 1) (by omega) (by simp)).later hB))
  clear hC hF hB hc
  go_loopw [3, 9] (fun v i wr => ∃ k : Nat, i = .int .i64 (k : Int) ∧ k ≤ 8 ∧ Hid (Rw w.heap.size 9 1 cS wr v ((L.take k).map Lib.itoa)) ∧ Hid (Below w.heap.size w wr)) (fun _ i _ => 8 - (intOf i).toNat)
  case atStart => exact ⟨0, rfl, by omega, HR0.out, HB0.out⟩
  case round =>
    obtain ⟨k, rfl, hk, hr, hb⟩ := hrel
    have hbz := hb.out.size
    by_cases hlt : k < 8
    · have hix := fun w => HI.out k hlt w
      have HZ := HA.out k hlt
      have HN := Lib.hid (take_snoc8 (l := L) (k := k) (by rw [HL8.out]; exact hlt))
      have hl8 : ((L.take k).map Lib.itoa).length ≤ 1000000 := by
        rw [List.length_map, List.length_take]
        omega
      generalize L.getD k 0 = z at *
      obtain ⟨z1, z2⟩ := HZ
      go_wp2_with fail
      refine (itoa_any z _ ⟨by omega, by omega⟩ (HT.out.below hb.out)).mono ?_
      rintro e1 w1 ⟨rfl, hB1⟩
      have hz1 := hB1.size
      have hr1 := hr.out.later hB1
      have hb1 := hb.out.trans (hB1.mono hbz)
      have HR1 := Lib.hid hr1
      have HB1 := Lib.hid hb1
      clear hB1 hr1 hb1
      go_wp2_with (at_builtin; go_loud (refine app_str (HR1.out.alloc _) (by rfl) _ _ _ (by rfl) (by kernel_rfl) (by rfl) _ (Lib.itoa z) (by rfl) (heap_alloc_new _ _) hl8 (by simp; omega) ?_))
      intro v1' w2 hr2 hg2 hat2
      have hb2 : Below w.heap.size w w2 := below_of_grown (HB1.out.alloc (by omega) _) hg2 (by simp; omega) (fun g hg => (HR1.out.lt g hg).1)
      have HR2 := Lib.hid hr2
      have HB2 := Lib.hid hb2
      clear hr2 hb2 hg2 hat2 hl8
      go_wp2
      go_roundw
      case rel =>
        go_light
        refine ⟨k + 1, by go_num, by omega, ?_, HB2.out⟩
        show Rw _ _ _ _ _ _ _
        rw [HN.out, List.map_append, List.map_take]
        exact HR2.out
      case measure => simp [intOf]; omega
    · have hk8 : k = 8 := by omega
      subst hk8
      have HT8 : L.take 8 = L := List.take_of_length_le (by rw [HL8.out]; omega)
      obtain ⟨a, cap, hv, hcap, hcm, hs⟩ := hr.out.sees cS_len
      rw [HT8, List.length_map, HL8.out] at hv hcap
      rw [HT8] at hs
      have hv' : _ = Value.slice a 8 cap := hv
      subst hv'
      rcases hs with h0 | ⟨g, rfl, _, hg, hcell, _⟩
      · rw [List.length_map, HL8.out] at h0; omega
      have hjl := jt_len L (fun x hx => by
        obtain ⟨k, hk, rfl⟩ := List.getElem_of_mem hx
        have := HA.out k (by rw [← HL8.out]; exact hk)
        have e : L.getD k 0 = L[k] := by simp [List.getD_eq_getElem?_getD, hk]
        rw [e] at this
        exact this.mono (by omega))
      go_wp2_with fail
      have hjn := Tryd.strings_Join g 0 cap (L.map fun x => (⟨(Lib.itoa x).toArray⟩ : ByteArray)) ⟨#[32]⟩ wr
      rw [List.length_map, HL8.out] at hjn
      refine (hjn ?_ hg (by omega) hcap ?_).mono ?_
      · intro j x hx
        rw [List.getElem?_map] at hx
        obtain ⟨z, hz, rfl⟩ := Option.map_eq_some_iff.1 hx
        have := hcell j (Lib.itoa z) (by rw [List.getElem?_map, hz]; rfl) 0 (by omega)
        rw [Nat.mul_one, Nat.add_zero] at this
        rw [Nat.zero_add, this]
        rfl
      · simp only [List.map_map]
        have : jt L = Lib.join (List.map ((fun x => x.data.toList) ∘ fun x => (⟨(Lib.itoa x).toArray⟩ : ByteArray)) L) [32] := by
          unfold jt
          congr 1
        rw [this] at hjl
        have h8 := HL8.out
        simp at hjl ⊢
        omega
      rintro e1 w1 ⟨rfl, hB1⟩
      have hB2 := hb.out.trans (hB1.mono hbz)
      go_wp2
      go_ret
      refine ⟨?_, hB2⟩
      congr 1
set_option maxRecDepth 100000 in
set_option maxHeartbeats 4000000 in
theorem specText_any (x0 x1 x2 x3 x4 x5 x6 x7 : Int) (w : World) (hc : cubeB x0 x1 x2 x3 x4 x5 x6 x7 = true) :
    Calls Tryd.prog 32 #[.agg #[.int .i64 x0, .int .i64 x1, .int .i64 x2, .int .i64 x3, .int .i64 x4, .int .i64 x5, .int .i64 x6, .int .i64 x7]] w fun en w' => en = .returned (.string ⟨(jt [x0, x1, x2, x3, x4, x5, x6, x7]).toArray⟩) ∧ Below w.heap.size w w' := by
  have hall : ∀ k < 8, Bd 500 ([x0, x1, x2, x3, x4, x5, x6, x7].getD k 0) := by
    obtain ⟨b0, b1, b2, b3, b4, b5, b6, b7⟩ := cubeB_bd hc
    intro k hk
    match k, hk with
    | 0, _ => exact b0
    | 1, _ => exact b1
    | 2, _ => exact b2
    | 3, _ => exact b3
    | 4, _ => exact b4
    | 5, _ => exact b5
    | 6, _ => exact b6
    | 7, _ => exact b7
  have hcl : ∀ w1 : World, ∀ k < 8, (w1.alloc (.cells #[.int .i64 x0, .int .i64 x1, .int .i64 x2, .int .i64 x3, .int .i64 x4, .int .i64 x5, .int .i64 x6, .int .i64 x7] 3)).cell? ⟨w1.heap.size, k, none⟩ = some (.int .i64 ([x0, x1, x2, x3, x4, x5, x6, x7].getD k 0)) := by
    intro w1 k hk
    match k, hk with
    | 0, _ => simp [go_sem]
    | 1, _ => simp [go_sem]
    | 2, _ => simp [go_sem]
    | 3, _ => simp [go_sem]
    | 4, _ => simp [go_sem]
    | 5, _ => simp [go_sem]
    | 6, _ => simp [go_sem]
    | 7, _ => simp [go_sem]
  obtain ⟨L, hLe⟩ : ∃ L : List Int, [x0, x1, x2, x3, x4, x5, x6, x7] = L := ⟨_, rfl⟩
  have hLn : L.length = 8 := by rw [← hLe]; rfl
  rw [hLe] at hall hcl ⊢
  have HCL := Lib.hid hcl
  clear hcl
  go_enter Tryd.func32, Tryd.ntmps32
  go_wp2_with fail
  refine (cuList_any _ _ _ _ _ _ _ _ _).mono ?_
  rintro e1 w' ⟨w1, hB1, rfl, rfl⟩
  have hS1 := hB1.size
  (try simp at hS1)
  have hcl := HCL.out w1
  have hB0 : Below w.heap.size w (w1.alloc (.cells #[.int .i64 x0, .int .i64 x1, .int .i64 x2, .int .i64 x3, .int .i64 x4, .int .i64 x5, .int .i64 x6, .int .i64 x7] 3)) := by repeat (first | with_reducible exact Below.refl _ _ | with_reducible assumption | ((with_reducible refine blA ?_ ?_); (focus (first | omega | (simp <;> omega)))) | (with_reducible refine blD ?_) | (with_reducible refine blN ?_) | ((with_reducible refine blS ?_ ?_); (focus (first | omega | (simp <;> omega)))) | ((with_reducible refine blT (by assumption) ?_ ?_); (focus (first | omega | (simp <;> omega)))))
  have hz0 : w1.heap.size + 1 = (w1.alloc (.cells #[.int .i64 x0, .int .i64 x1, .int .i64 x2, .int .i64 x3, .int .i64 x4, .int .i64 x5, .int .i64 x6, .int .i64 x7] 3)).heap.size := by simp
  generalize (w1.alloc (.cells #[.int .i64 x0, .int .i64 x1, .int .i64 x2, .int .i64 x3, .int .i64 x4, .int .i64 x5, .int .i64 x6, .int .i64 x7] 3)) = W at *
  have HC := Lib.hid hcl
  have HA := Lib.hid hall
  have HL8 := Lib.hid hLn
  have HB0 := Lib.hid hB0
  clear hc hall hcl hLe hLn hB0 hB1
  go_wp2
  go_loopw [3, 9] (fun v i wr => ∃ k : Nat, i = .int .i64 (k : Int) ∧ k ≤ 8 ∧ v = .string ⟨(jt (L.take k)).toArray⟩ ∧ Hid (Below W.heap.size W wr)) (fun _ i _ => 8 - (intOf i).toNat)
  case atStart => exact ⟨0, rfl, by omega, rfl, Below.refl _ _⟩
  case round =>
    obtain ⟨k, rfl, hk, rfl, hb⟩ := hrel
    have hbz := hb.out.size
    by_cases hlt : k < 8
    · have hcx : wr.cell? ⟨w1.heap.size, k, none⟩ = some (.int .i64 (L.getD k 0)) := by rw [bG hb.out (by omega)]; exact HC.out k hlt
      have HZ := HA.out k hlt
      have HN := Lib.hid (take_snoc8 (l := L) (k := k) (by rw [HL8.out]; exact hlt))
      have hjl := jt_len (L.take k) (fun x hx => by
        have hx' := List.mem_of_mem_take hx
        obtain ⟨k, hk, rfl⟩ := List.getElem_of_mem hx'
        have := HA.out k (by rw [← HL8.out]; exact hk)
        have e : L.getD k 0 = L[k] := by simp [List.getD_eq_getElem?_getD, hk]
        rw [e] at this
        exact this.mono (by omega))
      have hlk : (L.take k).length = k := by rw [List.length_take, HL8.out]; omega
      generalize L.getD k 0 = z at *
      have hsn := Lib.hid (jt_snoc (L.take k) z)
      have hzl := itoa_len (HZ.mono (show (500 : Int) ≤ 1000000000000 by omega))
      have HZ' := Lib.hid (HZ.mono (show (500 : Int) ≤ 1000000000000 by omega))
      rw [hlk] at hjl
      by_cases h0 : k = 0
      · subst h0
        have hJ0 : Hid (jt (L.take 0) = []) := Lib.hid rfl
        have HJ : Hid (jt (L.take (0 + 1)) = Lib.itoa z) := by show _ = _; rw [HN.out, hsn.out, if_pos (by simp)]
        generalize jt (L.take 0) = J at *
        clear hsn hlk
        go_wp2_with (first | (go_at_call 66; refine (l1Int_any _ _ HZ'.out).mono ?_; rintro e w' ⟨rfl, hB⟩; obtain ⟨hC, hF⟩ := bcell hB; have hS := hB.size; (try simp at hS); (try have hSl := Nat.lt_of_succ_le hS); (try have hS0 : w.heap.size < w'.heap.size := by omega); (try have hS1 : w.heap.size + 1 < w'.heap.size := by omega); (try have hS2 : w.heap.size + 1 + 1 < w'.heap.size := by omega); (try have hS3 : w.heap.size + 1 + 1 + 1 < w'.heap.size := by omega)))
        refine ⟨⟨1, by go_num, by omega, ?_, hb.out.trans (hB.mono (by omega))⟩, by simp [intOf]⟩
        rw [HJ.out, ba_app, hJ0.out]
        rfl
      · have hne : L.take k ≠ [] := by intro h; rw [h] at hlk; exact h0 hlk.symm
        have HJ : Hid (jt (L.take (k + 1)) = jt (L.take k) ++ ([32] ++ Lib.itoa z)) := by show _ = _; rw [HN.out, hsn.out, if_neg hne]
        generalize jt (L.take k) = J at *
        have hk0 : (0 : Int) < (k : Int) := by omega
        clear hne hsn hlk h0
        go_wp2_with (first | (go_at_call 66; refine (l1Int_any _ _ HZ'.out).mono ?_; rintro e w' ⟨rfl, hB⟩; obtain ⟨hC, hF⟩ := bcell hB; have hS := hB.size; (try simp at hS); (try have hSl := Nat.lt_of_succ_le hS); (try have hS0 : w.heap.size < w'.heap.size := by omega); (try have hS1 : w.heap.size + 1 < w'.heap.size := by omega); (try have hS2 : w.heap.size + 1 + 1 < w'.heap.size := by omega); (try have hS3 : w.heap.size + 1 + 1 + 1 < w'.heap.size := by omega)))
        refine ⟨⟨k + 1, by go_num, by omega, ?_, hb.out.trans (hB.mono (by omega))⟩, by simp [intOf]; omega⟩
        rw [HJ.out, ← List.append_assoc, ← ba_app, ← ba_app]
    · have hk8 : k = 8 := by omega
      subst hk8
      have HT8 : Hid (L.take 8 = L) := Lib.hid (List.take_of_length_le (by rw [HL8.out]; omega))
      go_wp2
      go_ret
      refine ⟨?_, HB0.out.trans (hb.out.mono (by omega))⟩
      rw [HT8.out]
      rfl
def ctR (x0 x1 x2 x3 x4 x5 x6 x7 : Int) : List UInt8 := if cubeB x0 x1 x2 x3 x4 x5 x6 x7 = true then jt [x0, x1, x2, x3, x4, x5, x6, x7] else []
theorem implCubeText_any (x0 x1 x2 x3 x4 x5 x6 x7 : Int) (w : World) (ht : Tab w) :
    Calls Tryd.prog 11 #[.agg #[.int .i64 x0, .int .i64 x1, .int .i64 x2, .int .i64 x3, .int .i64 x4, .int .i64 x5, .int .i64 x6, .int .i64 x7]] w fun en w' => en = .returned (.tuple #[.string ⟨(ctR x0 x1 x2 x3 x4 x5 x6 x7).toArray⟩, .bool (cubeB x0 x1 x2 x3 x4 x5 x6 x7)]) ∧ Below w.heap.size w w' := by
  cases c : cubeB x0 x1 x2 x3 x4 x5 x6 x7 with
  | true =>
    have HR : Hid (ctR x0 x1 x2 x3 x4 x5 x6 x7 = jt [x0, x1, x2, x3, x4, x5, x6, x7]) := by show _ = _; rw [ctR, c, if_pos rfl]
    have hck : Hid (∀ w0, Calls Tryd.prog 33 #[.agg #[.int .i64 x0, .int .i64 x1, .int .i64 x2, .int .i64 x3, .int .i64 x4, .int .i64 x5, .int .i64 x6, .int .i64 x7]] w0 fun en w' => en = .returned (.bool true) ∧ Below w0.heap.size w0 w') := fun w0 => by
      have := IsCube_any x0 x1 x2 x3 x4 x5 x6 x7 w0
      rwa [c] at this
    have htx : Hid (∀ w0, Below w.heap.size w w0 → Calls Tryd.prog 31 #[.agg #[.int .i64 x0, .int .i64 x1, .int .i64 x2, .int .i64 x3, .int .i64 x4, .int .i64 x5, .int .i64 x6, .int .i64 x7]] w0 fun en w' => en = .returned (.string ⟨(jt [x0, x1, x2, x3, x4, x5, x6, x7]).toArray⟩) ∧ Below w0.heap.size w0 w') := fun w0 hb0 => implText_any x0 x1 x2 x3 x4 x5 x6 x7 w0 c (ht.below hb0)
    rw [HR.out]
    generalize jt [x0, x1, x2, x3, x4, x5, x6, x7] = J at *
    clear HR c
    go_enter Tryd.func11, Tryd.ntmps11
    go_wp2_with (first | (go_at_call 33; refine (hck.out _).mono ?_; rintro e w' ⟨rfl, hB⟩; obtain ⟨hC, hF⟩ := bcell hB; have hS := hB.size; (try simp at hS); (try have hSl := Nat.lt_of_succ_le hS); (try have hS0 : w.heap.size < w'.heap.size := by omega); (try have hS1 : w.heap.size + 1 < w'.heap.size := by omega); (try have hS2 : w.heap.size + 1 + 1 < w'.heap.size := by omega); (try have hS3 : w.heap.size + 1 + 1 + 1 < w'.heap.size := by omega)))
    have hbw := Lib.hid (show Below w.heap.size w w' by repeat (first | with_reducible exact Below.refl _ _ | with_reducible assumption | ((with_reducible refine blA ?_ ?_); (focus (first | omega | (simp <;> omega)))) | (with_reducible refine blD ?_) | (with_reducible refine blN ?_) | ((with_reducible refine blS ?_ ?_); (focus (first | omega | (simp <;> omega)))) | ((with_reducible refine blT (by assumption) ?_ ?_); (focus (first | omega | (simp <;> omega))))))
    refine (htx.out _ hbw.out).mono ?_
    rintro e2 w2 ⟨rfl, hB2⟩
    have hz2 := hB2.size
    have hb2 : Below w.heap.size w w2 := hbw.out.trans (hB2.mono (by omega))
    go_wp2
    go_ret2
    exact ⟨rfl, hb2⟩
  | false =>
    have HR : Hid (ctR x0 x1 x2 x3 x4 x5 x6 x7 = []) := by show _ = _; rw [ctR, c, if_neg (by decide)]
    have hck : Hid (∀ w0, Calls Tryd.prog 33 #[.agg #[.int .i64 x0, .int .i64 x1, .int .i64 x2, .int .i64 x3, .int .i64 x4, .int .i64 x5, .int .i64 x6, .int .i64 x7]] w0 fun en w' => en = .returned (.bool false) ∧ Below w0.heap.size w0 w') := fun w0 => by
      have := IsCube_any x0 x1 x2 x3 x4 x5 x6 x7 w0
      rwa [c] at this
    rw [HR.out]
    clear HR c
    go_enter Tryd.func11, Tryd.ntmps11
    go_wp2_with (first | (go_at_call 33; refine (hck.out _).mono ?_; rintro e w' ⟨rfl, hB⟩; obtain ⟨hC, hF⟩ := bcell hB; have hS := hB.size; (try simp at hS); (try have hSl := Nat.lt_of_succ_le hS); (try have hS0 : w.heap.size < w'.heap.size := by omega); (try have hS1 : w.heap.size + 1 < w'.heap.size := by omega); (try have hS2 : w.heap.size + 1 + 1 < w'.heap.size := by omega); (try have hS3 : w.heap.size + 1 + 1 + 1 < w'.heap.size := by omega)))
    go_ret2
    refine ⟨rfl, ?_⟩
    repeat (first | with_reducible exact Below.refl _ _ | with_reducible assumption | ((with_reducible refine blA ?_ ?_); (focus (first | omega | (simp <;> omega)))) | (with_reducible refine blD ?_) | (with_reducible refine blN ?_) | ((with_reducible refine blS ?_ ?_); (focus (first | omega | (simp <;> omega)))) | ((with_reducible refine blT (by assumption) ?_ ?_); (focus (first | omega | (simp <;> omega)))))
theorem specCubeText_any (x0 x1 x2 x3 x4 x5 x6 x7 : Int) (w : World) :
    Calls Tryd.prog 9 #[.agg #[.int .i64 x0, .int .i64 x1, .int .i64 x2, .int .i64 x3, .int .i64 x4, .int .i64 x5, .int .i64 x6, .int .i64 x7]] w fun en w' => en = .returned (.tuple #[.string ⟨(ctR x0 x1 x2 x3 x4 x5 x6 x7).toArray⟩, .bool (cubeB x0 x1 x2 x3 x4 x5 x6 x7)]) ∧ Below w.heap.size w w' := by
  cases c : cubeB x0 x1 x2 x3 x4 x5 x6 x7 with
  | true =>
    have HR : Hid (ctR x0 x1 x2 x3 x4 x5 x6 x7 = jt [x0, x1, x2, x3, x4, x5, x6, x7]) := by show _ = _; rw [ctR, c, if_pos rfl]
    have hck : Hid (∀ w0, Calls Tryd.prog 27 #[.agg #[.int .i64 x0, .int .i64 x1, .int .i64 x2, .int .i64 x3, .int .i64 x4, .int .i64 x5, .int .i64 x6, .int .i64 x7]] w0 fun en w' => en = .returned (.bool true) ∧ Below w0.heap.size w0 w') := fun w0 => by
      have := cuIn_any x0 x1 x2 x3 x4 x5 x6 x7 w0
      rwa [c] at this
    have htx : Hid (∀ w0, Below w.heap.size w w0 → Calls Tryd.prog 32 #[.agg #[.int .i64 x0, .int .i64 x1, .int .i64 x2, .int .i64 x3, .int .i64 x4, .int .i64 x5, .int .i64 x6, .int .i64 x7]] w0 fun en w' => en = .returned (.string ⟨(jt [x0, x1, x2, x3, x4, x5, x6, x7]).toArray⟩) ∧ Below w0.heap.size w0 w') := fun w0 hb0 => specText_any x0 x1 x2 x3 x4 x5 x6 x7 w0 c
    rw [HR.out]
    generalize jt [x0, x1, x2, x3, x4, x5, x6, x7] = J at *
    clear HR c
    go_enter Tryd.func9, Tryd.ntmps9
    go_wp2_with (first | (go_at_call 27; refine (hck.out _).mono ?_; rintro e w' ⟨rfl, hB⟩; obtain ⟨hC, hF⟩ := bcell hB; have hS := hB.size; (try simp at hS); (try have hSl := Nat.lt_of_succ_le hS); (try have hS0 : w.heap.size < w'.heap.size := by omega); (try have hS1 : w.heap.size + 1 < w'.heap.size := by omega); (try have hS2 : w.heap.size + 1 + 1 < w'.heap.size := by omega); (try have hS3 : w.heap.size + 1 + 1 + 1 < w'.heap.size := by omega)))
    have hbw := Lib.hid (show Below w.heap.size w w' by repeat (first | with_reducible exact Below.refl _ _ | with_reducible assumption | ((with_reducible refine blA ?_ ?_); (focus (first | omega | (simp <;> omega)))) | (with_reducible refine blD ?_) | (with_reducible refine blN ?_) | ((with_reducible refine blS ?_ ?_); (focus (first | omega | (simp <;> omega)))) | ((with_reducible refine blT (by assumption) ?_ ?_); (focus (first | omega | (simp <;> omega))))))
    refine (htx.out _ hbw.out).mono ?_
    rintro e2 w2 ⟨rfl, hB2⟩
    have hz2 := hB2.size
    have hb2 : Below w.heap.size w w2 := hbw.out.trans (hB2.mono (by omega))
    go_wp2
    go_ret2
    exact ⟨rfl, hb2⟩
  | false =>
    have HR : Hid (ctR x0 x1 x2 x3 x4 x5 x6 x7 = []) := by show _ = _; rw [ctR, c, if_neg (by decide)]
    have hck : Hid (∀ w0, Calls Tryd.prog 27 #[.agg #[.int .i64 x0, .int .i64 x1, .int .i64 x2, .int .i64 x3, .int .i64 x4, .int .i64 x5, .int .i64 x6, .int .i64 x7]] w0 fun en w' => en = .returned (.bool false) ∧ Below w0.heap.size w0 w') := fun w0 => by
      have := cuIn_any x0 x1 x2 x3 x4 x5 x6 x7 w0
      rwa [c] at this
    rw [HR.out]
    clear HR c
    go_enter Tryd.func9, Tryd.ntmps9
    go_wp2_with (first | (go_at_call 27; refine (hck.out _).mono ?_; rintro e w' ⟨rfl, hB⟩; obtain ⟨hC, hF⟩ := bcell hB; have hS := hB.size; (try simp at hS); (try have hSl := Nat.lt_of_succ_le hS); (try have hS0 : w.heap.size < w'.heap.size := by omega); (try have hS1 : w.heap.size + 1 < w'.heap.size := by omega); (try have hS2 : w.heap.size + 1 + 1 < w'.heap.size := by omega); (try have hS3 : w.heap.size + 1 + 1 + 1 < w'.heap.size := by omega)))
    go_ret2
    refine ⟨rfl, ?_⟩
    repeat (first | with_reducible exact Below.refl _ _ | with_reducible assumption | ((with_reducible refine blA ?_ ?_); (focus (first | omega | (simp <;> omega)))) | (with_reducible refine blD ?_) | (with_reducible refine blN ?_) | ((with_reducible refine blS ?_ ?_); (focus (first | omega | (simp <;> omega)))) | ((with_reducible refine blT (by assumption) ?_ ?_); (focus (first | omega | (simp <;> omega)))))
set_option maxRecDepth 100000 in
set_option maxHeartbeats 1000000 in
theorem law_cubeText (x0 x1 x2 x3 x4 x5 x6 x7 : Int) (w : World) (ht : Tab w) (_ : I64 x0) (_ : I64 x1) (_ : I64 x2) (_ : I64 x3) (_ : I64 x4) (_ : I64 x5) (_ : I64 x6) (_ : I64 x7) :
    Calls Tryd.prog 4 #[.agg #[.int .i64 x0, .int .i64 x1, .int .i64 x2, .int .i64 x3, .int .i64 x4, .int .i64 x5, .int .i64 x6, .int .i64 x7]] w fun en w' => en = .returned (.bool true) ∧ Below w.heap.size w w' := by
  have HT := Lib.hid ht
  clear ht
  go_enter Tryd.func4, Tryd.ntmps4
  go_wp2_with fail
  refine (toCube_any _ _ _ _ _ _ _ _ _).mono ?_
  rintro e1 w1 ⟨rfl, hB1⟩
  obtain ⟨hC1, hF1⟩ := bcell hB1
  have hS1 := hB1.size
  (try simp at hS1)
  (try have hS1_w0 : w.heap.size < w1.heap.size := by omega)
  (try have hS1_w1 : w.heap.size + 1 < w1.heap.size := by omega)
  (try have hS1_w2 : w.heap.size + 1 + 1 < w1.heap.size := by omega)
  (try have hS1_w3 : w.heap.size + 1 + 1 + 1 < w1.heap.size := by omega)
  (try have hS1_w4 : w.heap.size + 1 + 1 + 1 + 1 < w1.heap.size := by omega)
  (try have hL1_w0 : w.heap.size ≤ w1.heap.size := by omega)
  (try have hL1_w1 : w.heap.size + 1 ≤ w1.heap.size := by omega)
  (try have hL1_w2 : w.heap.size + 1 + 1 ≤ w1.heap.size := by omega)
  (try have hL1_w3 : w.heap.size + 1 + 1 + 1 ≤ w1.heap.size := by omega)
  (try have hL1_w : w.heap.size ≤ w1.heap.size + 1 := by omega)
  (try have hM1_1 : w.heap.size < w1.heap.size + 1 := by omega)
  (try have hM1_2 : w.heap.size < w1.heap.size + 1 + 1 := by omega)
  (try have hM1_3 : w.heap.size < w1.heap.size + 1 + 1 + 1 := by omega)
  go_wp2_with fail
  refine (specCubeText_any _ _ _ _ _ _ _ _ _).mono ?_
  rintro e2 w2 ⟨rfl, hB2⟩
  obtain ⟨hC2, hF2⟩ := bcell hB2
  have hS2 := hB2.size
  (try simp at hS2)
  (try have hS2_w0 : w.heap.size < w2.heap.size := by omega)
  (try have hS2_w1 : w.heap.size + 1 < w2.heap.size := by omega)
  (try have hS2_w2 : w.heap.size + 1 + 1 < w2.heap.size := by omega)
  (try have hS2_w3 : w.heap.size + 1 + 1 + 1 < w2.heap.size := by omega)
  (try have hS2_w4 : w.heap.size + 1 + 1 + 1 + 1 < w2.heap.size := by omega)
  (try have hL2_w0 : w.heap.size ≤ w2.heap.size := by omega)
  (try have hL2_w1 : w.heap.size + 1 ≤ w2.heap.size := by omega)
  (try have hL2_w2 : w.heap.size + 1 + 1 ≤ w2.heap.size := by omega)
  (try have hL2_w3 : w.heap.size + 1 + 1 + 1 ≤ w2.heap.size := by omega)
  (try have hL2_w : w.heap.size ≤ w2.heap.size + 1 := by omega)
  (try have hM2_1 : w.heap.size < w2.heap.size + 1 := by omega)
  (try have hM2_2 : w.heap.size < w2.heap.size + 1 + 1 := by omega)
  (try have hM2_3 : w.heap.size < w2.heap.size + 1 + 1 + 1 := by omega)
  (try have hN2_1_00 : w1.heap.size < w2.heap.size := by omega)
  (try have hN2_1_01 : w1.heap.size < w2.heap.size + 1 := by omega)
  (try have hN2_1_02 : w1.heap.size < w2.heap.size + 1 + 1 := by omega)
  (try have hN2_1_10 : w1.heap.size + 1 < w2.heap.size := by omega)
  (try have hN2_1_11 : w1.heap.size + 1 < w2.heap.size + 1 := by omega)
  (try have hN2_1_12 : w1.heap.size + 1 < w2.heap.size + 1 + 1 := by omega)
  (try have hN2_1_20 : w1.heap.size + 1 + 1 < w2.heap.size := by omega)
  (try have hN2_1_21 : w1.heap.size + 1 + 1 < w2.heap.size + 1 := by omega)
  (try have hN2_1_22 : w1.heap.size + 1 + 1 < w2.heap.size + 1 + 1 := by omega)
  (try have hL2_1 : w1.heap.size ≤ w2.heap.size := by omega)
  (try have hS2_1 : w1.heap.size < w2.heap.size := by omega)
  (try have hS2_1' : w1.heap.size + 1 < w2.heap.size := by omega)
  go_wp2_with fail
  refine (toCube_any _ _ _ _ _ _ _ _ _).mono ?_
  rintro e3 w3 ⟨rfl, hB3⟩
  obtain ⟨hC3, hF3⟩ := bcell hB3
  have hS3 := hB3.size
  (try simp at hS3)
  (try have hS3_w0 : w.heap.size < w3.heap.size := by omega)
  (try have hS3_w1 : w.heap.size + 1 < w3.heap.size := by omega)
  (try have hS3_w2 : w.heap.size + 1 + 1 < w3.heap.size := by omega)
  (try have hS3_w3 : w.heap.size + 1 + 1 + 1 < w3.heap.size := by omega)
  (try have hS3_w4 : w.heap.size + 1 + 1 + 1 + 1 < w3.heap.size := by omega)
  (try have hL3_w0 : w.heap.size ≤ w3.heap.size := by omega)
  (try have hL3_w1 : w.heap.size + 1 ≤ w3.heap.size := by omega)
  (try have hL3_w2 : w.heap.size + 1 + 1 ≤ w3.heap.size := by omega)
  (try have hL3_w3 : w.heap.size + 1 + 1 + 1 ≤ w3.heap.size := by omega)
  (try have hL3_w : w.heap.size ≤ w3.heap.size + 1 := by omega)
  (try have hM3_1 : w.heap.size < w3.heap.size + 1 := by omega)
  (try have hM3_2 : w.heap.size < w3.heap.size + 1 + 1 := by omega)
  (try have hM3_3 : w.heap.size < w3.heap.size + 1 + 1 + 1 := by omega)
  (try have hN3_1_00 : w1.heap.size < w3.heap.size := by omega)
  (try have hN3_1_01 : w1.heap.size < w3.heap.size + 1 := by omega)
  (try have hN3_1_02 : w1.heap.size < w3.heap.size + 1 + 1 := by omega)
  (try have hN3_1_10 : w1.heap.size + 1 < w3.heap.size := by omega)
  (try have hN3_1_11 : w1.heap.size + 1 < w3.heap.size + 1 := by omega)
  (try have hN3_1_12 : w1.heap.size + 1 < w3.heap.size + 1 + 1 := by omega)
  (try have hN3_1_20 : w1.heap.size + 1 + 1 < w3.heap.size := by omega)
  (try have hN3_1_21 : w1.heap.size + 1 + 1 < w3.heap.size + 1 := by omega)
  (try have hN3_1_22 : w1.heap.size + 1 + 1 < w3.heap.size + 1 + 1 := by omega)
  (try have hN3_2_00 : w2.heap.size < w3.heap.size := by omega)
  (try have hN3_2_01 : w2.heap.size < w3.heap.size + 1 := by omega)
  (try have hN3_2_02 : w2.heap.size < w3.heap.size + 1 + 1 := by omega)
  (try have hN3_2_10 : w2.heap.size + 1 < w3.heap.size := by omega)
  (try have hN3_2_11 : w2.heap.size + 1 < w3.heap.size + 1 := by omega)
  (try have hN3_2_12 : w2.heap.size + 1 < w3.heap.size + 1 + 1 := by omega)
  (try have hN3_2_20 : w2.heap.size + 1 + 1 < w3.heap.size := by omega)
  (try have hN3_2_21 : w2.heap.size + 1 + 1 < w3.heap.size + 1 := by omega)
  (try have hN3_2_22 : w2.heap.size + 1 + 1 < w3.heap.size + 1 + 1 := by omega)
  (try have hL3_1 : w1.heap.size ≤ w3.heap.size := by omega)
  (try have hL3_2 : w2.heap.size ≤ w3.heap.size := by omega)
  (try have hS3_1 : w1.heap.size < w3.heap.size := by omega)
  (try have hS3_1' : w1.heap.size + 1 < w3.heap.size := by omega)
  (try have hS3_2 : w2.heap.size < w3.heap.size := by omega)
  (try have hS3_2' : w2.heap.size + 1 < w3.heap.size := by omega)
  go_wp2_with fail
  have hb4 := Lib.hid (show Below w.heap.size w w3 by repeat (first | with_reducible exact Below.refl _ _ | with_reducible assumption | ((with_reducible refine blA ?_ ?_); (focus (first | omega | (simp <;> omega)))) | (with_reducible refine blD ?_) | (with_reducible refine blN ?_) | ((with_reducible refine blS ?_ ?_); (focus (first | omega | (simp <;> omega)))) | ((with_reducible refine blT (by assumption) ?_ ?_); (focus (first | omega | (simp <;> omega))))))
  refine (implCubeText_any _ _ _ _ _ _ _ _ _ (HT.out.below hb4.out)).mono ?_
  rintro e4 w4 ⟨rfl, hB4⟩
  obtain ⟨hC4, hF4⟩ := bcell hB4
  have hS4 := hB4.size
  (try simp at hS4)
  (try have hS4_w0 : w.heap.size < w4.heap.size := by omega)
  (try have hS4_w1 : w.heap.size + 1 < w4.heap.size := by omega)
  (try have hS4_w2 : w.heap.size + 1 + 1 < w4.heap.size := by omega)
  (try have hS4_w3 : w.heap.size + 1 + 1 + 1 < w4.heap.size := by omega)
  (try have hS4_w4 : w.heap.size + 1 + 1 + 1 + 1 < w4.heap.size := by omega)
  (try have hL4_w0 : w.heap.size ≤ w4.heap.size := by omega)
  (try have hL4_w1 : w.heap.size + 1 ≤ w4.heap.size := by omega)
  (try have hL4_w2 : w.heap.size + 1 + 1 ≤ w4.heap.size := by omega)
  (try have hL4_w3 : w.heap.size + 1 + 1 + 1 ≤ w4.heap.size := by omega)
  (try have hL4_w : w.heap.size ≤ w4.heap.size + 1 := by omega)
  (try have hM4_1 : w.heap.size < w4.heap.size + 1 := by omega)
  (try have hM4_2 : w.heap.size < w4.heap.size + 1 + 1 := by omega)
  (try have hM4_3 : w.heap.size < w4.heap.size + 1 + 1 + 1 := by omega)
  (try have hN4_1_00 : w1.heap.size < w4.heap.size := by omega)
  (try have hN4_1_01 : w1.heap.size < w4.heap.size + 1 := by omega)
  (try have hN4_1_02 : w1.heap.size < w4.heap.size + 1 + 1 := by omega)
  (try have hN4_1_10 : w1.heap.size + 1 < w4.heap.size := by omega)
  (try have hN4_1_11 : w1.heap.size + 1 < w4.heap.size + 1 := by omega)
  (try have hN4_1_12 : w1.heap.size + 1 < w4.heap.size + 1 + 1 := by omega)
  (try have hN4_1_20 : w1.heap.size + 1 + 1 < w4.heap.size := by omega)
  (try have hN4_1_21 : w1.heap.size + 1 + 1 < w4.heap.size + 1 := by omega)
  (try have hN4_1_22 : w1.heap.size + 1 + 1 < w4.heap.size + 1 + 1 := by omega)
  (try have hN4_2_00 : w2.heap.size < w4.heap.size := by omega)
  (try have hN4_2_01 : w2.heap.size < w4.heap.size + 1 := by omega)
  (try have hN4_2_02 : w2.heap.size < w4.heap.size + 1 + 1 := by omega)
  (try have hN4_2_10 : w2.heap.size + 1 < w4.heap.size := by omega)
  (try have hN4_2_11 : w2.heap.size + 1 < w4.heap.size + 1 := by omega)
  (try have hN4_2_12 : w2.heap.size + 1 < w4.heap.size + 1 + 1 := by omega)
  (try have hN4_2_20 : w2.heap.size + 1 + 1 < w4.heap.size := by omega)
  (try have hN4_2_21 : w2.heap.size + 1 + 1 < w4.heap.size + 1 := by omega)
  (try have hN4_2_22 : w2.heap.size + 1 + 1 < w4.heap.size + 1 + 1 := by omega)
  (try have hN4_3_00 : w3.heap.size < w4.heap.size := by omega)
  (try have hN4_3_01 : w3.heap.size < w4.heap.size + 1 := by omega)
  (try have hN4_3_02 : w3.heap.size < w4.heap.size + 1 + 1 := by omega)
  (try have hN4_3_10 : w3.heap.size + 1 < w4.heap.size := by omega)
  (try have hN4_3_11 : w3.heap.size + 1 < w4.heap.size + 1 := by omega)
  (try have hN4_3_12 : w3.heap.size + 1 < w4.heap.size + 1 + 1 := by omega)
  (try have hN4_3_20 : w3.heap.size + 1 + 1 < w4.heap.size := by omega)
  (try have hN4_3_21 : w3.heap.size + 1 + 1 < w4.heap.size + 1 := by omega)
  (try have hN4_3_22 : w3.heap.size + 1 + 1 < w4.heap.size + 1 + 1 := by omega)
  (try have hL4_1 : w1.heap.size ≤ w4.heap.size := by omega)
  (try have hL4_2 : w2.heap.size ≤ w4.heap.size := by omega)
  (try have hL4_3 : w3.heap.size ≤ w4.heap.size := by omega)
  (try have hS4_1 : w1.heap.size < w4.heap.size := by omega)
  (try have hS4_1' : w1.heap.size + 1 < w4.heap.size := by omega)
  (try have hS4_2 : w2.heap.size < w4.heap.size := by omega)
  (try have hS4_2' : w2.heap.size + 1 < w4.heap.size := by omega)
  (try have hS4_3 : w3.heap.size < w4.heap.size := by omega)
  (try have hS4_3' : w3.heap.size + 1 < w4.heap.size := by omega)
  go_wp2
  go_ret
  refine ⟨rfl, ?_⟩
  repeat (first | with_reducible exact Below.refl _ _ | with_reducible assumption | ((with_reducible refine blA ?_ ?_); (focus (first | omega | (simp <;> omega)))) | (with_reducible refine blD ?_) | (with_reducible refine blN ?_) | ((with_reducible refine blS ?_ ?_); (focus (first | omega | (simp <;> omega)))) | ((with_reducible refine blT (by assumption) ?_ ?_); (focus (first | omega | (simp <;> omega)))))
end Go.Proofs.YtlfbanoabipacaaDoor
