/-
  How the reference cuts texts and reads lists of numbers: the walks.
-/
import Derived.Test.YtlfbanoabipacaaDoorRdw
namespace Go.Proofs.YtlfbanoabipacaaDoor
open Go.RowKit
attribute [local simp, local go_sem] past_cell past_frozen past_tape
section
variable {α : Type} {B B' : Nat} {t : TypeId} {cs : α → List Value} {s : Nat} {w w' : World} {v : Value} {l : List α} {a : Option Addr}
/-- Something is appended, longer rows. -/
theorem app_rw2 {ops : Array Oper} {rest : List Oper} {o : Oper} {a : Act} {Q : Exit → Act → World → Prop} (w : World) (hgd : o.guard = none) (sl x : Operand) (T : TypeId)
    (ho : o.op = .call { callee := .builtin .append, args := #[sl, x], argTypes := #[T, T] }) (ht : Tryd.prog.underlying T = some (.slice t))
    (z : Value) (bytes : Nat) (hi : (Tryd.prog.info? t).map (fun i => (i.zero, i.size, i.bytes)) = some (some z, s, bytes)) (hzs : z.cells.size = s) (hs0 : 0 < s) (hby : bytes ≤ 100) (hs : ∀ x, (cs x).length = s) (ho1 : ∀ x, ∀ u ∈ cs x, u.oneCell' = true)
    (v : Value) (l : List α) (hv : a.eval sl = v) (hown : Rw B t s cs w v l) (h : Nat) (y : α) (hx : a.eval x = .slice (some ⟨h, 0, none⟩) 1 1) (hh : w.heap[h]? = some (.cells (cs y).toArray t (0, 0))) (hl : l.length ≤ 3000000) (hB : B ≤ w.heap.size)
    (K : ∀ v' w', Rw B t s cs w' v' (l ++ [y]) → w.grownBy w' v.ownBlock → (v'.ownBlock = v.ownBlock ∨ v'.ownBlock = some w.heap.size) → wpList Tryd.prog ops Q rest (a.put o.dst v') w') : wpList Tryd.prog ops Q (o :: rest) a w := by
  obtain ⟨i, hi1, hz, hsz, hby1⟩ := info_parts hi
  refine wpList_append_own_at w hgd sl x T ho B t i z s bytes ht hi1 hz hsz hby1 hzs hs0 v l.length (l.flatMap cs) hv hown ⟨h, 0, none⟩ 1 1 (cs y) hx (by rw [hs]; omega)
    (fun j u hu => World.news_of_block hh j u (by simpa using hu)) (ho1 y) (by unfold maxLen; omega) ?_ hB ?_
  · have : (l.length + 1) * bytes ≤ 3000001 * 100 := Nat.mul_le_mul (by omega) hby
    omega
  · intro v' w' h1 h2 _ h4
    refine K v' w' ?_ h2 h4
    unfold Rw
    rw [List.length_append, List.flatMap_append]
    simpa using h1
end
theorem app_str2 {ops : Array Oper} {rest : List Oper} {o : Oper} {a : Act} {Q : Exit → Act → World → Prop} {w : World} {B : Nat} {v : Value} {l : List (List UInt8)} (hown : Rw B 9 1 cS w v l) (hgd : o.guard = none) (sl x : Operand) (T : TypeId)
    (ho : o.op = .call { callee := .builtin .append, args := #[sl, x], argTypes := #[T, T] }) (ht : Tryd.prog.underlying T = some (.slice 9)) (hv : a.eval sl = v) (h : Nat) (y : List UInt8) (hx : a.eval x = .slice (some ⟨h, 0, none⟩) 1 1)
    (hh : w.heap[h]? = some (.cells #[.string ⟨y.toArray⟩] 9 (0, 0))) (hl : l.length ≤ 3000000) (hB : B ≤ w.heap.size)
    (K : ∀ v' w', Rw B 9 1 cS w' v' (l ++ [y]) → w.grownBy w' v.ownBlock → (v'.ownBlock = v.ownBlock ∨ v'.ownBlock = some w.heap.size) → wpList Tryd.prog ops Q rest (a.put o.dst v') w') : wpList Tryd.prog ops Q (o :: rest) a w :=
  app_rw2 w hgd sl x T ho ht (.string ⟨#[]⟩) 16 (by kernel_rfl) rfl (by decide) (by decide) cS_len cS_one v l hv hown h y hx hh hl hB K
theorem app_int2 {ops : Array Oper} {rest : List Oper} {o : Oper} {a : Act} {Q : Exit → Act → World → Prop} {w : World} {B : Nat} {v : Value} {l : List (Int)} (hown : Rw B 3 1 c1 w v l) (hgd : o.guard = none) (sl x : Operand) (T : TypeId)
    (ho : o.op = .call { callee := .builtin .append, args := #[sl, x], argTypes := #[T, T] }) (ht : Tryd.prog.underlying T = some (.slice 3)) (hv : a.eval sl = v) (h : Nat) (y : Int) (hx : a.eval x = .slice (some ⟨h, 0, none⟩) 1 1)
    (hh : w.heap[h]? = some (.cells #[.int .i64 y] 3 (0, 0))) (hl : l.length ≤ 3000000) (hB : B ≤ w.heap.size)
    (K : ∀ v' w', Rw B 3 1 c1 w' v' (l ++ [y]) → w.grownBy w' v.ownBlock → (v'.ownBlock = v.ownBlock ∨ v'.ownBlock = some w.heap.size) → wpList Tryd.prog ops Q rest (a.put o.dst v') w') : wpList Tryd.prog ops Q (o :: rest) a w :=
  app_rw2 w hgd sl x T ho ht (.int .i64 0) 8 (by kernel_rfl) rfl (by decide) (by decide) c1_len c1_one v l hv hown h y hx hh hl hB K
theorem ba_eta (t : ByteArray) : (⟨t.data.toList.toArray⟩ : ByteArray) = t := by
  apply ByteArray.ext
  simp
set_option maxRecDepth 100000 in
set_option maxHeartbeats 4000000 in
theorem l1Split_any (s : ByteArray) (b : UInt8) (w : World) (hs : s.size ≤ 1048576) :
    Calls Tryd.prog 56 #[.string s, .int .u8 (b.toNat : Int)] w fun en w' => ∃ v, en = .returned v ∧ Rw w.heap.size 9 1 cS w' v (splitL s.data.toList b) ∧ Below w.heap.size w w' := by
  have HN := Lib.hid (len_size s)
  go_enter Tryd.func56, Tryd.ntmps56
  go_wp2
  go_loopw [5, 6, 7] (fun v x y wr => ∃ k : Nat, y = .int .i64 (k : Int) ∧ k ≤ s.size ∧ x = .int .i64 ((spl s.data.toList b k).2 : Int) ∧ Hid (Rw w.heap.size 9 1 cS wr v (spl s.data.toList b k).1) ∧ Hid (Below w.heap.size w wr)) (fun _ _ y _ => s.size - (intOf y).toNat)
  case atStart => exact ⟨0, rfl, by omega, rfl, Rw.nil _ _ _ _ _, Below.refl _ _⟩
  case round =>
    obtain ⟨k, rfl, hk, rfl, hr, hb⟩ := hrel
    have hbz := hb.out.size
    have hle := spl_le s.data.toList b k
    have hln := spl_len s.data.toList b k
    by_cases hlt : k < s.size
    · obtain ⟨c, hc⟩ : ∃ c, s[k]'hlt = c := ⟨_, rfl⟩
      have hg := at_get hlt
      rw [hc] at hg
      by_cases hcb : c = b
      · subst hcb
        have HS : Hid (spl s.data.toList c (k + 1) = ((spl s.data.toList c k).1 ++ [(s.data.toList.drop (spl s.data.toList c k).2).take (k - (spl s.data.toList c k).2)], k + 1)) := by
          show _ = _
          rw [spl, if_pos hg]
        have hl3 : (spl s.data.toList c k).1.length ≤ 3000000 := by omega
        generalize hF : (spl s.data.toList c k).2 = F at *
        have hcc : ((c.toNat : Int) == (c.toNat : Int)) = true := by simp
        go_wp2_with (at_builtin; go_loud (refine app_str2 (hr.out.alloc _) (by rfl) _ _ _ (by rfl) (by kernel_rfl) (by rfl) _ (s.extract F k).data.toList (by rfl) (by rw [ba_eta]; exact heap_alloc_new _ _) hl3 (by simp; omega) ?_))
        intro v1' w1 hr1 hg1 hat1
        have hb1 : Below w.heap.size w w1 := below_of_grown (hb.out.alloc hbz _) hg1 (by simp; omega) (fun g hg => (hr.out.lt g hg).1)
        have HR1 := Lib.hid hr1
        have HB1 := Lib.hid hb1
        clear hr1 hb1 hg1 hat1 hl3
        go_wp2
        go_roundw
        case rel =>
          go_light
          refine ⟨k + 1, by go_num, by omega, ?_, ?_, HB1.out⟩
          · rw [HS.out]
            go_num
          · show Rw _ _ _ _ _ _ _
            rw [HS.out]
            exact HR1.out
        case measure => simp [intOf]; omega
      · have HS : Hid (spl s.data.toList b (k + 1) = spl s.data.toList b k) := by
          show _ = _
          rw [spl, if_neg (by rw [hg]; simpa using hcb)]
        have hcc : ((c.toNat : Int) == (b.toNat : Int)) = false := by
          simp
          intro h
          have h2 : c.toNat = b.toNat := by omega
          exact hcb (by rw [← uint_of c, ← uint_of b, h2])
        have hcc' : ¬ (c.toNat : Int) = (b.toNat : Int) := by simpa using hcc
        go_wp2
        go_roundw
        case rel =>
          go_light
          refine ⟨k + 1, by go_num, by omega, ?_, ?_, hb.out⟩
          · rw [HS.out]
          · show Rw _ _ _ _ _ _ _
            rw [HS.out]
            exact hr.out
        case measure => simp [intOf]; omega
    · have hks : k = s.size := by omega
      subst hks
      have HS : Hid (splitL s.data.toList b = (spl s.data.toList b s.size).1 ++ [s.data.toList.drop (spl s.data.toList b s.size).2]) := by
        show _ = _
        unfold splitL
        rw [HN.out]
      have hl3 : (spl s.data.toList b s.size).1.length ≤ 3000000 := by omega
      generalize hF : (spl s.data.toList b s.size).2 = F at *
      go_wp2_with (at_builtin; go_loud (refine app_str2 (hr.out.alloc _) (by rfl) _ _ _ (by rfl) (by kernel_rfl) (by rfl) _ (s.extract F s.size).data.toList (by rfl) (by rw [ba_eta]; exact heap_alloc_new _ _) hl3 (by simp; omega) ?_))
      intro v1' w1 hr1 hg1 hat1
      have hb1 : Below w.heap.size w w1 := below_of_grown (hb.out.alloc hbz _) hg1 (by simp; omega) (fun g hg => (hr.out.lt g hg).1)
      have HR1 := Lib.hid hr1
      have HB1 := Lib.hid hb1
      clear hr1 hb1 hg1 hat1 hl3
      go_wp2
      go_ret
      refine ⟨_, rfl, ?_, HB1.out⟩
      have e := HR1.out
      rw [← ext_mid, ext_drop] at e
      rw [HS.out]
      exact e
theorem foV_some {l : List UInt8} (h : foK l = true) : foI l = some (foV l) := by
  unfold foV
  have := foI_isSome l
  rw [h] at this
  cases hf : foI l with
  | none => rw [hf] at this; cases this
  | some x => rfl
theorem foV_none {l : List UInt8} (h : foK l = false) : foI l = none := by
  have := foI_isSome l
  rw [h] at this
  cases hf : foI l with
  | none => rfl
  | some x => rw [hf] at this; cases this
theorem part_bd {l : List UInt8} {b : UInt8} {p : List UInt8} (hp : p ∈ splitL l b) : p.length ≤ l.length := by
  unfold splitL at hp
  rcases List.mem_append.1 hp with hp | hp
  · have key : ∀ i, ∀ p ∈ (spl l b i).1, p.length ≤ l.length := by
      intro i
      induction i with
      | zero => intro p hp; simp [spl] at hp
      | succ i ih =>
        intro p hp
        unfold spl at hp
        split at hp
        · rcases List.mem_append.1 hp with hp | hp
          · exact ih p hp
          · obtain rfl : p = _ := by simpa using hp
            rw [List.length_take, List.length_drop]
            omega
        · exact ih p hp
    exact key _ p hp
  · obtain rfl : p = _ := by simpa using hp
    rw [List.length_drop]
    omega
set_option maxRecDepth 100000 in
set_option maxHeartbeats 4000000 in
theorem foInts_any (s : ByteArray) (b : UInt8) (n : Nat) (w : World) (hs : s.size ≤ 1048576) (hn : n ≤ 100) :
    Calls Tryd.prog 26 #[.string s, .int .u8 (b.toNat : Int), .int .i64 (n : Int)] w fun en w' => ∃ v, en = .returned v ∧ Rw w.heap.size 3 1 c1 w' v (fiL s.data.toList b n) ∧ Below w.heap.size w w' := by
  have hpl := splitL_len s.data.toList b
  rw [len_size] at hpl
  have hpb : ∀ p ∈ splitL s.data.toList b, p.length ≤ 1048576 := fun p hp => Nat.le_trans (part_bd hp) (by rw [len_size]; exact hs)
  have HF : Hid (fiL s.data.toList b n = if (splitL s.data.toList b).length = n then (seqO foI (splitL s.data.toList b)).getD [] else []) := Lib.hid rfl
  have hsp := Lib.hid (fun w0 => l1Split_any s b w0 hs)
  generalize fiL s.data.toList b n = R at *
  generalize splitL s.data.toList b = P at *
  obtain ⟨L, hL⟩ : ∃ L, P.length = L := ⟨_, rfl⟩
  have HL := Lib.hid hL
  have HPB := Lib.hid hpb
  have HF2 : Hid (R = if L = n then (seqO foI P).getD [] else []) := by show _ = _; rw [HF.out, hL]
  rw [hL] at hpl
  clear HF hL hpb
  go_enter Tryd.func26, Tryd.ntmps26
  go_wp2_with fail
  refine (hsp.out _).mono ?_
  rintro e1 w1 ⟨v1, rfl, hr1, hB1⟩
  have hz1 := hB1.size
  obtain ⟨a1, k1, hv1, hk1, _, hs1⟩ := hr1.sees cS_len
  rw [HL.out] at hv1 hk1
  subst hv1
  have S1 := Lib.hid hs1
  have B1 := Lib.hid hB1
  clear hr1 hs1 hB1
  by_cases hc : L = n
  · subst hc
    have hc' : ((L : Int) != (L : Int)) = false := by simp
    have HR : Hid (R = (seqO foI P).getD []) := by show _ = _; rw [HF2.out, if_pos rfl]
    clear HF2
    go_wp2
    go_loopw [8, 22] (fun v i wr => ∃ k : Nat, i = .int .i64 (k : Int) ∧ k ≤ L ∧ (∃ z, Hid (seqO foI (P.take k) = some z) ∧ Hid (Rw w1.heap.size 3 1 c1 wr v z)) ∧ Hid (Below w1.heap.size w1 wr)) (fun _ i _ => L - (intOf i).toNat)
    case atStart => exact ⟨0, rfl, by omega, ⟨[], rfl, Rw.nil _ _ _ _ _⟩, Below.refl _ _⟩
    case round =>
      obtain ⟨k, rfl, hk, ⟨z, hz, hr⟩, hb⟩ := hrel
      have hbz := hb.out.size
      by_cases hlt : k < L
      · obtain ⟨p, hp⟩ := get_some HL.out hlt
        have hpz := HPB.out p (List.mem_of_getElem? hp)
        have hcx : ∃ g, a1 = some ⟨g, 0, none⟩ ∧ wr.cell? ⟨g, k, none⟩ = some (.string ⟨p.toArray⟩) := by
          rcases S1.out with h0 | ⟨g, rfl, _, hg, hcell, _⟩
          · have := HL.out; omega
          · exact ⟨g, rfl, by have := hcell k p hp 0 (by omega); rw [bG hb.out hg]; simpa [cS] using this⟩
        obtain ⟨g, rfl, hcx⟩ := hcx
        have HTK : Hid (P.take (k + 1) = P.take k ++ [p]) := by show _ = _; rw [List.take_add_one, hp]; rfl
        have HM := Lib.hid (List.mem_of_getElem? hp)
        have hcall : Hid (∀ w0, Calls Tryd.prog 57 #[.string ⟨p.toArray⟩] w0 fun en w' => en = .returned (.tuple #[.int .i64 (foV p), .bool (foK p)]) ∧ w0 = w') := fun w0 => by
          have := foInt_any ⟨p.toArray⟩ w0 (by have := len_size ⟨p.toArray⟩; simp at this ⊢; omega)
          simpa using this
        have hzl : z.length ≤ 3000000 := by
          have h1 := (seqO_some foI _ _ hz.out).1
          rw [List.length_take, HL.out] at h1
          omega
        clear hp
        cases hfk : foK p with
        | true =>
          have HS : Hid (seqO foI (P.take (k + 1)) = some (z ++ [foV p])) := by show _ = _; rw [HTK.out, seqO_snoc, hz.out, foV_some hfk]
          rw [hfk] at hcall
          generalize foV p = x at *
          clear hfk
          go_wp2_with (first | (go_at_call 57; refine (hcall.out _).mono ?_; rintro e w' ⟨rfl, rfl⟩) | (at_builtin; go_loud (refine app_int2 (hr.out.alloc _) (by rfl) _ _ _ (by rfl) (by kernel_rfl) (by rfl) _ x (by rfl) (heap_alloc_new _ _) hzl (by simp; omega) ?_)))
          intro v2 w2 hr2 hg2 hat2
          have hb2 : Below w1.heap.size w1 w2 := below_of_grown (hb.out.alloc hbz _) hg2 (by simp; omega) (fun g hg => (hr.out.lt g hg).1)
          have HR2 := Lib.hid hr2
          have HB2 := Lib.hid hb2
          clear hr2 hb2 hg2 hat2 hzl
          go_wp2
          go_roundw
          case rel =>
            go_light
            exact ⟨k + 1, by go_num, by omega, ⟨_, HS.out, HR2.out⟩, HB2.out⟩
          case measure => simp [intOf]; omega
        | false =>
          have HN : Hid (R = []) := by show _ = _; rw [HR.out, seqO_none foI HM.out (foV_none hfk)]; rfl
          rw [hfk] at hcall
          generalize foV p = x at *
          clear hfk
          go_wp2_with (first | (go_at_call 57; refine (hcall.out _).mono ?_; rintro e w' ⟨rfl, rfl⟩))
          go_ret
          refine ⟨_, rfl, ?_, B1.out.trans (hb.out.mono hz1)⟩
          rw [HN.out]
          exact Rw.nil _ _ _ _ _
      · have hkl : k = L := by omega
        subst hkl
        have HRz : Hid (R = z) := by
          show _ = _
          have h1 := hz.out
          rw [List.take_of_length_le (by rw [HL.out]; exact Nat.le_refl _)] at h1
          rw [HR.out, h1]
          rfl
        go_wp2
        go_ret
        refine ⟨_, rfl, ?_, B1.out.trans (hb.out.mono hz1)⟩
        rw [HRz.out]
        exact hr.out.mono hz1
  · have HR : Hid (R = []) := by show _ = _; rw [HF2.out, if_neg hc]
    have hc' : ((L : Int) != (n : Int)) = true := by simp; omega
    go_wp2
    go_ret
    refine ⟨_, rfl, ?_, B1.out⟩
    rw [HR.out]
    exact Rw.nil _ _ _ _ _
end Go.Proofs.YtlfbanoabipacaaDoor
