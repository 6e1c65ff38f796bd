/-
  What is proved: a clay read off a text, by the program and by the reference. Conditions: a length that fits; the library's own variables hold what they are laid with.
-/
import Derived.Test.YtfjdhjbfingofaaGreatDoorClayT
import Derived.Test.YtfjdhjbfingofaaGreatDoorReadFS
import Derived.Test.YtfjdhjbfingofaaGreatDoorJoinF
namespace Go.Proofs.YtfjdhjbfingofaaGreatDoor
open Go.RowKit Go.PlainAid
set_option linter.unusedVariables false

/-- What is read: a clay, or none. -/
def ClayPost (o : Option Clay) (w : World) (e : Ending) (w' : World) : Prop :=
  Below w.heap.size w w' ∧ ((o = none ∧ e = .returned (.tuple #[.agg #[.string ⟨#[]⟩, .int .i64 0, .int .i64 0, .int .i64 0, .int .i64 0], .bool false])) ∨ ∃ n s l d p, o = some ⟨n, s, l, d, p⟩ ∧ e = .returned (.tuple #[.agg #[.string n, .int .i64 s, .int .i64 l, .int .i64 d, .int .i64 p], .bool true]))
theorem clay_no {o : Option Clay} {w w' : World} {e : Ending} (h : o = none) (he : e = .returned (.tuple #[.agg #[.string ⟨#[]⟩, .int .i64 0, .int .i64 0, .int .i64 0, .int .i64 0], .bool false])) (hb : Below w.heap.size w w') : ClayPost o w e w' := ⟨hb, .inl ⟨h, he⟩⟩
theorem clay_got {o : Option Clay} {w w' : World} {e : Ending} {n : ByteArray} {s l d p : Int} (h : o = some ⟨n, s, l, d, p⟩) (he : e = .returned (.tuple #[.agg #[.string n, .int .i64 s, .int .i64 l, .int .i64 d, .int .i64 p], .bool true])) (hb : Below w.heap.size w w') : ClayPost o w e w' := ⟨hb, .inr ⟨n, s, l, d, p, h, he⟩⟩
theorem clayT_ne {s : ByteArray} {c : Clay} (hs : s.data.toList ≠ []) (h : ¬ (c.ok = true ∧ cText c = s.data.toList)) : clayT c ≠ s := by
  intro e
  cases hb : c.ok with
  | false =>
    rw [clayT_no hb] at e
    rw [← e] at hs
    exact hs rfl
  | true =>
    rw [clayT_yes hb] at e
    exact h ⟨hb, by rw [← e, ba_data]⟩
theorem clayT_eq {s : ByteArray} {c : Clay} (h : c.ok = true ∧ cText c = s.data.toList) : clayT c = s := by
  rw [clayT_yes h.1, h.2, ba_of]
theorem addr_ne {b b' i i' : Nat} (h : b ≠ b' ∨ i ≠ i') : (⟨b, i, none⟩ : Addr) ≠ ⟨b', i', none⟩ := by
  intro q
  injection q with q1 q2
  omega
theorem set_far {w : World} {b b' i i' : Nat} {v u : Value} (hne : b ≠ b' ∨ i ≠ i') (h : w.cell? ⟨b', i', none⟩ = some u) : (w.setCell ⟨b, i, none⟩ v).cell? ⟨b', i', none⟩ = some u := by
  rw [World.cell?_setCell_other]
  · exact h
  · exact addr_ne hne
theorem set_at {w : World} {a : Addr} {v u : Value} (h : w.cell? a = some u) : (w.setCell a v).cell? a = some v := by
  apply World.cell?_setCell_same
  exact h
theorem fz_set {w : World} {p a : Addr} {v : Value} (h : w.frozen? a = false) : (w.setCell p v).frozen? a = false := by
  rw [World.frozen?_setCell]
  exact h
theorem nine_ne {l : List UInt8} (h : (spl 32 l).length = 9) : l ≠ [] := fun e => by
  subst e
  simp [spl] at h
theorem split_row (s : ByteArray) (w : World) (xs : List ByteArray) (k : Nat) (hx : splB 32 s = xs) (hk : xs.length = k) (hs : s.size ≤ 16777216) (hm : MaxLenIs w) :
    Calls Tryz.prog 51 #[.string s, .string ⟨#[32]⟩] w fun e w' => ∃ g, e = .returned (.slice (some ⟨g, 0, none⟩) k k) ∧ Row encS 1 w' (some ⟨g, 0, none⟩) xs ∧ w.heap.size ≤ g ∧ g < w'.heap.size ∧ Below w.heap.size w w' := by
  subst hx hk
  refine (split_at 32 s w hs hm).mono fun e w' ⟨he, hw⟩ => ⟨w.heap.size, he, ?_, Nat.le_refl _, ?_, ?_⟩
  · rw [hw]
    exact row_built w _ _ _ rfl
  · rw [hw]; simp
  · rw [hw]
    exact (Below.refl _ _).alloc (Nat.le_refl _) _
set_option maxRecDepth 100000 in
set_option maxHeartbeats 2000000 in
theorem impl_readClay_count (s : ByteArray) (w : World) (hs : s.size ≤ 1048576) (hm : MaxLenIs w) (h : (spl 32 s.data.toList).length ≠ 9) :
    Calls Tryz.prog 19 #[.string s] w (ClayPost (clyL s.data.toList) w) := by
  have hMz : 1 < w.heap.size := by obtain ⟨m, hm⟩ := hm; exact cell_lt hm
  have HM := hide hm
  have HN := hide (cly_no9 h)
  obtain ⟨n, hn⟩ : ∃ n, (splB 32 s).length = n := ⟨_, rfl⟩
  have hn' : n ≠ 9 := by rw [← hn]; unfold splB; rw [List.length_map]; exact h
  have hd : ((n : Int) != 9) = true := by simp; omega
  have hd2 : ((n : Int) == 9) = false := by rw [beq_eq_false_iff_ne]; omega
  have HL := hide hn
  clear h hn hm
  have HB0 := hide ((Below.refl w.heap.size w).alloc (Nat.le_refl _) (.cells #[.string ⟨#[]⟩, .int .i64 0, .int .i64 0, .int .i64 0, .int .i64 0] 35))
  go_enter Tryz.func19, Tryz.ntmps19
  go_wp2_with fail
  refine (split_row s _ _ n rfl HL.out (by omega) (HM.out.below hMz HB0.out)).mono ?_
  rintro e w1 ⟨g, rfl, hrow, hg1, hg2, hb⟩
  have r0 := (hb.cell (p := ⟨w.heap.size, 0, none⟩) (by simp)).trans (show _ = some (.string ⟨#[]⟩) from by simp [go_sem])
  have x0 := ((bcell hb).2 w.heap.size 0 (by simp)).trans (show _ = false from by simp [go_sem])
  have r1 := (hb.cell (p := ⟨w.heap.size, 1, none⟩) (by simp)).trans (show _ = some (.int .i64 0) from by simp [go_sem])
  have x1 := ((bcell hb).2 w.heap.size 1 (by simp)).trans (show _ = false from by simp [go_sem])
  have r2 := (hb.cell (p := ⟨w.heap.size, 2, none⟩) (by simp)).trans (show _ = some (.int .i64 0) from by simp [go_sem])
  have x2 := ((bcell hb).2 w.heap.size 2 (by simp)).trans (show _ = false from by simp [go_sem])
  have r3 := (hb.cell (p := ⟨w.heap.size, 3, none⟩) (by simp)).trans (show _ = some (.int .i64 0) from by simp [go_sem])
  have x3 := ((bcell hb).2 w.heap.size 3 (by simp)).trans (show _ = false from by simp [go_sem])
  have r4 := (hb.cell (p := ⟨w.heap.size, 4, none⟩) (by simp)).trans (show _ = some (.int .i64 0) from by simp [go_sem])
  have x4 := ((bcell hb).2 w.heap.size 4 (by simp)).trans (show _ = false from by simp [go_sem])
  have hz : w.heap.size < w1.heap.size := by have := hb.size; simp at this; omega
  have HB1 := hide (HB0.out.trans (hb.mono (by simp)))
  clear hb hrow
  go_wp2
  refine bodyPost_ret (v := .tuple #[.agg #[.string ⟨#[]⟩, .int .i64 0, .int .i64 0, .int .i64 0, .int .i64 0], .bool false]) ?_ rfl (clay_no HN.out rfl ?_)
  · simp [results, Tryz.results19, go_sem, r0, r1, r2, r3, r4]
  · have BX := HB1.out
    go_grown
set_option maxRecDepth 100000 in
set_option maxHeartbeats 8000000 in
theorem impl_readClay_nums (s : ByteArray) (w : World) (hs : s.size ≤ 1048576) (hm : MaxLenIs w) (hp : Pow10 w) (hy : ErrSyn w) (n a x b y c z d u : List UInt8) (h : spl 32 s.data.toList = [n, a, x, b, y, c, z, d, u]) :
    Calls Tryz.prog 19 #[.string s] w (ClayPost (clyL s.data.toList) w) := by
  have hMz : 1 < w.heap.size := by obtain ⟨m, hm⟩ := hm; exact cell_lt hm
  have HM := hide hm
  have HP := hide hp
  have HY := hide hy
  clear hm hp hy
  have HB0 := hide ((Below.refl w.heap.size w).alloc (Nat.le_refl _) (.cells #[.string ⟨#[]⟩, .int .i64 0, .int .i64 0, .int .i64 0, .int .i64 0] 35))
  have HS := hide h
  have HL := hide (splB_of h)
  have HNE := hide (nine_ne (l := s.data.toList) (by rw [h]; rfl))
  have hnz : (ba n).size ≤ 1048576 := by
    have := spl_size (c := 32) (l := s.data.toList) (p := n) (by rw [h]; simp)
    rw [ba_size']
    simp at this
    omega
  have hxz : (ba x).size ≤ 1048576 := by
    have := spl_size (c := 32) (l := s.data.toList) (p := x) (by rw [h]; simp)
    rw [ba_size']
    simp at this
    omega
  have hyz : (ba y).size ≤ 1048576 := by
    have := spl_size (c := 32) (l := s.data.toList) (p := y) (by rw [h]; simp)
    rw [ba_size']
    simp at this
    omega
  have hzz : (ba z).size ≤ 1048576 := by
    have := spl_size (c := 32) (l := s.data.toList) (p := z) (by rw [h]; simp)
    rw [ba_size']
    simp at this
    omega
  have huz : (ba u).size ≤ 1048576 := by
    have := spl_size (c := 32) (l := s.data.toList) (p := u) (by rw [h]; simp)
    rw [ba_size']
    simp at this
    omega
  clear h
  go_enter Tryz.func19, Tryz.ntmps19
  go_wp2_with fail
  refine (split_row s _ _ 9 HL.out rfl (by omega) (HM.out.below hMz HB0.out)).mono ?_
  rintro e w1 ⟨g, rfl, hrow, hg1, hg2, hb⟩
  have r0 := (hb.cell (p := ⟨w.heap.size, 0, none⟩) (by simp)).trans (show _ = some (.string ⟨#[]⟩) from by simp [go_sem])
  have x0 := ((bcell hb).2 w.heap.size 0 (by simp)).trans (show _ = false from by simp [go_sem])
  have r1 := (hb.cell (p := ⟨w.heap.size, 1, none⟩) (by simp)).trans (show _ = some (.int .i64 0) from by simp [go_sem])
  have x1 := ((bcell hb).2 w.heap.size 1 (by simp)).trans (show _ = false from by simp [go_sem])
  have r2 := (hb.cell (p := ⟨w.heap.size, 2, none⟩) (by simp)).trans (show _ = some (.int .i64 0) from by simp [go_sem])
  have x2 := ((bcell hb).2 w.heap.size 2 (by simp)).trans (show _ = false from by simp [go_sem])
  have r3 := (hb.cell (p := ⟨w.heap.size, 3, none⟩) (by simp)).trans (show _ = some (.int .i64 0) from by simp [go_sem])
  have x3 := ((bcell hb).2 w.heap.size 3 (by simp)).trans (show _ = false from by simp [go_sem])
  have r4 := (hb.cell (p := ⟨w.heap.size, 4, none⟩) (by simp)).trans (show _ = some (.int .i64 0) from by simp [go_sem])
  have x4 := ((bcell hb).2 w.heap.size 4 (by simp)).trans (show _ = false from by simp [go_sem])
  have hz : w.heap.size < w1.heap.size := by have := hb.size; simp at this; omega
  have hgw : w.heap.size < g := by simp at hg1; omega
  have HB1 := hide (HB0.out.trans (hb.mono (by simp)))
  obtain ⟨g', off', e', -, a0⟩ := row_at_1 (i := 0) hrow rfl rfl
  obtain ⟨rfl, rfl⟩ : g = g' ∧ off' = 0 := by injection e' with e'; injection e' with e1 e2 e3; exact ⟨e1, e2.symm⟩
  rw [Nat.zero_add] at a0
  clear e'
  obtain ⟨g', off', e', -, a2⟩ := row_at_1 (i := 2) hrow rfl rfl
  obtain ⟨rfl, rfl⟩ : g = g' ∧ off' = 0 := by injection e' with e'; injection e' with e1 e2 e3; exact ⟨e1, e2.symm⟩
  rw [Nat.zero_add] at a2
  clear e'
  obtain ⟨g', off', e', -, a4⟩ := row_at_1 (i := 4) hrow rfl rfl
  obtain ⟨rfl, rfl⟩ : g = g' ∧ off' = 0 := by injection e' with e'; injection e' with e1 e2 e3; exact ⟨e1, e2.symm⟩
  rw [Nat.zero_add] at a4
  clear e'
  obtain ⟨g', off', e', -, a6⟩ := row_at_1 (i := 6) hrow rfl rfl
  obtain ⟨rfl, rfl⟩ : g = g' ∧ off' = 0 := by injection e' with e'; injection e' with e1 e2 e3; exact ⟨e1, e2.symm⟩
  rw [Nat.zero_add] at a6
  clear e'
  obtain ⟨g', off', e', -, a8⟩ := row_at_1 (i := 8) hrow rfl rfl
  obtain ⟨rfl, rfl⟩ : g = g' ∧ off' = 0 := by injection e' with e'; injection e' with e1 e2 e3; exact ⟨e1, e2.symm⟩
  rw [Nat.zero_add] at a8
  clear e'
  have hwc : w.heap.size ≠ w1.heap.size := by omega
  have hgc : g ≠ w1.heap.size := by omega
  have hwp : w.heap.size ≠ w1.heap.size + 1 := by omega
  have hgp : g ≠ w1.heap.size + 1 := by omega
  clear hb hrow hg1
  go_wp2
  refine wp_loop_rounds 5 ?_
  rw [rounds_succ]
  cases hn0 : numL x with
  | none =>
    have HN := hide (cly_num HS.out (.inl hn0))
    obtain ⟨v1, v2⟩ := num_no (s := ba x) (by rw [ba_data]; exact hn0)
    have HV1 := hide v1
    have HV2 := hide v2
    clear v1 v2 hn0
    go_wp2_with fail
    refine (impl_readDec (ba x) _ (by omega) (HP.out.below (by have BX := HB1.out; go_grown)) (HY.out.below (by have BX := HB1.out; go_grown))).mono ?_
    rintro e w2 ⟨rfl, hb⟩
    rw [HV1.out, HV2.out]
    replace r0 := (hb.cell (p := ⟨w.heap.size, 0, none⟩) (by first | omega | (simp; omega) | simp)).trans ((World.cell?_alloc_lt _ _ ⟨w.heap.size, 0, none⟩ (by first | omega | (simp; omega) | simp)).trans ((World.cell?_alloc_lt _ _ ⟨w.heap.size, 0, none⟩ hz).trans r0))
    replace x0 := ((bcell hb).2 w.heap.size 0 (by first | omega | (simp; omega) | simp)).trans ((World.frozen?_alloc_old _ _ _ (by first | omega | (simp; omega) | simp)).trans ((World.frozen?_alloc_old _ _ _ (by first | omega | (simp; omega) | simp)).trans x0))
    replace r1 := (hb.cell (p := ⟨w.heap.size, 1, none⟩) (by first | omega | (simp; omega) | simp)).trans ((World.cell?_alloc_lt _ _ ⟨w.heap.size, 1, none⟩ (by first | omega | (simp; omega) | simp)).trans ((World.cell?_alloc_lt _ _ ⟨w.heap.size, 1, none⟩ hz).trans r1))
    replace x1 := ((bcell hb).2 w.heap.size 1 (by first | omega | (simp; omega) | simp)).trans ((World.frozen?_alloc_old _ _ _ (by first | omega | (simp; omega) | simp)).trans ((World.frozen?_alloc_old _ _ _ (by first | omega | (simp; omega) | simp)).trans x1))
    replace r2 := (hb.cell (p := ⟨w.heap.size, 2, none⟩) (by first | omega | (simp; omega) | simp)).trans ((World.cell?_alloc_lt _ _ ⟨w.heap.size, 2, none⟩ (by first | omega | (simp; omega) | simp)).trans ((World.cell?_alloc_lt _ _ ⟨w.heap.size, 2, none⟩ hz).trans r2))
    replace x2 := ((bcell hb).2 w.heap.size 2 (by first | omega | (simp; omega) | simp)).trans ((World.frozen?_alloc_old _ _ _ (by first | omega | (simp; omega) | simp)).trans ((World.frozen?_alloc_old _ _ _ (by first | omega | (simp; omega) | simp)).trans x2))
    replace r3 := (hb.cell (p := ⟨w.heap.size, 3, none⟩) (by first | omega | (simp; omega) | simp)).trans ((World.cell?_alloc_lt _ _ ⟨w.heap.size, 3, none⟩ (by first | omega | (simp; omega) | simp)).trans ((World.cell?_alloc_lt _ _ ⟨w.heap.size, 3, none⟩ hz).trans r3))
    replace x3 := ((bcell hb).2 w.heap.size 3 (by first | omega | (simp; omega) | simp)).trans ((World.frozen?_alloc_old _ _ _ (by first | omega | (simp; omega) | simp)).trans ((World.frozen?_alloc_old _ _ _ (by first | omega | (simp; omega) | simp)).trans x3))
    replace r4 := (hb.cell (p := ⟨w.heap.size, 4, none⟩) (by first | omega | (simp; omega) | simp)).trans ((World.cell?_alloc_lt _ _ ⟨w.heap.size, 4, none⟩ (by first | omega | (simp; omega) | simp)).trans ((World.cell?_alloc_lt _ _ ⟨w.heap.size, 4, none⟩ hz).trans r4))
    replace x4 := ((bcell hb).2 w.heap.size 4 (by first | omega | (simp; omega) | simp)).trans ((World.frozen?_alloc_old _ _ _ (by first | omega | (simp; omega) | simp)).trans ((World.frozen?_alloc_old _ _ _ (by first | omega | (simp; omega) | simp)).trans x4))
    have hz2 : w1.heap.size + 1 < w2.heap.size := by have := hb.size; simp at this; omega
    have HB2 := hide (show Below w.heap.size w w2 from by
      refine Below.trans ?_ (hb.mono (by first | omega | (simp; omega) | simp))
      have BX := HB1.out
      go_grown)
    clear hb
    go_wp2
    refine bodyPost_ret (v := .tuple #[.agg #[.string ⟨#[]⟩, .int .i64 0, .int .i64 0, .int .i64 0, .int .i64 0], .bool false]) ?_ rfl (clay_no HN.out rfl ?_)
    · simp [results, Tryz.results19, go_sem, r0, r1, r2, r3, r4]
    · have BX := HB2.out
      go_grown
  | some k0 =>
    obtain ⟨v1, v2⟩ := num_yes (s := ba x) (n := k0) (by rw [ba_data]; exact hn0)
    have N0 := hide hn0
    have HV1 := hide v1
    have HV2 := hide v2
    clear v1 v2 hn0
    go_wp2_with fail
    refine (impl_readDec (ba x) _ (by omega) (HP.out.below (by have BX := HB1.out; go_grown)) (HY.out.below (by have BX := HB1.out; go_grown))).mono ?_
    rintro e w2 ⟨rfl, hb⟩
    rw [HV1.out, HV2.out]
    replace r0 := (hb.cell (p := ⟨w.heap.size, 0, none⟩) (by first | omega | (simp; omega) | simp)).trans ((World.cell?_alloc_lt _ _ ⟨w.heap.size, 0, none⟩ (by first | omega | (simp; omega) | simp)).trans ((World.cell?_alloc_lt _ _ ⟨w.heap.size, 0, none⟩ hz).trans r0))
    replace x0 := ((bcell hb).2 w.heap.size 0 (by first | omega | (simp; omega) | simp)).trans ((World.frozen?_alloc_old _ _ _ (by first | omega | (simp; omega) | simp)).trans ((World.frozen?_alloc_old _ _ _ (by first | omega | (simp; omega) | simp)).trans x0))
    replace r1 := (hb.cell (p := ⟨w.heap.size, 1, none⟩) (by first | omega | (simp; omega) | simp)).trans ((World.cell?_alloc_lt _ _ ⟨w.heap.size, 1, none⟩ (by first | omega | (simp; omega) | simp)).trans ((World.cell?_alloc_lt _ _ ⟨w.heap.size, 1, none⟩ hz).trans r1))
    replace x1 := ((bcell hb).2 w.heap.size 1 (by first | omega | (simp; omega) | simp)).trans ((World.frozen?_alloc_old _ _ _ (by first | omega | (simp; omega) | simp)).trans ((World.frozen?_alloc_old _ _ _ (by first | omega | (simp; omega) | simp)).trans x1))
    replace r2 := (hb.cell (p := ⟨w.heap.size, 2, none⟩) (by first | omega | (simp; omega) | simp)).trans ((World.cell?_alloc_lt _ _ ⟨w.heap.size, 2, none⟩ (by first | omega | (simp; omega) | simp)).trans ((World.cell?_alloc_lt _ _ ⟨w.heap.size, 2, none⟩ hz).trans r2))
    replace x2 := ((bcell hb).2 w.heap.size 2 (by first | omega | (simp; omega) | simp)).trans ((World.frozen?_alloc_old _ _ _ (by first | omega | (simp; omega) | simp)).trans ((World.frozen?_alloc_old _ _ _ (by first | omega | (simp; omega) | simp)).trans x2))
    replace r3 := (hb.cell (p := ⟨w.heap.size, 3, none⟩) (by first | omega | (simp; omega) | simp)).trans ((World.cell?_alloc_lt _ _ ⟨w.heap.size, 3, none⟩ (by first | omega | (simp; omega) | simp)).trans ((World.cell?_alloc_lt _ _ ⟨w.heap.size, 3, none⟩ hz).trans r3))
    replace x3 := ((bcell hb).2 w.heap.size 3 (by first | omega | (simp; omega) | simp)).trans ((World.frozen?_alloc_old _ _ _ (by first | omega | (simp; omega) | simp)).trans ((World.frozen?_alloc_old _ _ _ (by first | omega | (simp; omega) | simp)).trans x3))
    replace r4 := (hb.cell (p := ⟨w.heap.size, 4, none⟩) (by first | omega | (simp; omega) | simp)).trans ((World.cell?_alloc_lt _ _ ⟨w.heap.size, 4, none⟩ (by first | omega | (simp; omega) | simp)).trans ((World.cell?_alloc_lt _ _ ⟨w.heap.size, 4, none⟩ hz).trans r4))
    replace x4 := ((bcell hb).2 w.heap.size 4 (by first | omega | (simp; omega) | simp)).trans ((World.frozen?_alloc_old _ _ _ (by first | omega | (simp; omega) | simp)).trans ((World.frozen?_alloc_old _ _ _ (by first | omega | (simp; omega) | simp)).trans x4))
    replace a4 := (hb.cell (p := ⟨g, 4, none⟩) (by first | omega | (simp; omega) | simp)).trans ((World.cell?_alloc_lt _ _ ⟨g, 4, none⟩ (by first | omega | (simp; omega) | simp)).trans ((World.cell?_alloc_lt _ _ ⟨g, 4, none⟩ hg2).trans a4))
    replace a6 := (hb.cell (p := ⟨g, 6, none⟩) (by first | omega | (simp; omega) | simp)).trans ((World.cell?_alloc_lt _ _ ⟨g, 6, none⟩ (by first | omega | (simp; omega) | simp)).trans ((World.cell?_alloc_lt _ _ ⟨g, 6, none⟩ hg2).trans a6))
    replace a8 := (hb.cell (p := ⟨g, 8, none⟩) (by first | omega | (simp; omega) | simp)).trans ((World.cell?_alloc_lt _ _ ⟨g, 8, none⟩ (by first | omega | (simp; omega) | simp)).trans ((World.cell?_alloc_lt _ _ ⟨g, 8, none⟩ hg2).trans a8))
    have c0 := (hb.cell (p := ⟨w1.heap.size, 0, none⟩) (by first | omega | (simp; omega) | simp)).trans (show _ = some (.string (ba n)) from by simp [go_sem])
    have y0 := ((bcell hb).2 w1.heap.size 0 (by first | omega | (simp; omega) | simp)).trans (show _ = false from by simp [go_sem])
    have c1 := (hb.cell (p := ⟨w1.heap.size, 1, none⟩) (by first | omega | (simp; omega) | simp)).trans (show _ = some (.int .i64 0) from by simp [go_sem])
    have y1 := ((bcell hb).2 w1.heap.size 1 (by first | omega | (simp; omega) | simp)).trans (show _ = false from by simp [go_sem])
    have c2 := (hb.cell (p := ⟨w1.heap.size, 2, none⟩) (by first | omega | (simp; omega) | simp)).trans (show _ = some (.int .i64 0) from by simp [go_sem])
    have y2 := ((bcell hb).2 w1.heap.size 2 (by first | omega | (simp; omega) | simp)).trans (show _ = false from by simp [go_sem])
    have c3 := (hb.cell (p := ⟨w1.heap.size, 3, none⟩) (by first | omega | (simp; omega) | simp)).trans (show _ = some (.int .i64 0) from by simp [go_sem])
    have y3 := ((bcell hb).2 w1.heap.size 3 (by first | omega | (simp; omega) | simp)).trans (show _ = false from by simp [go_sem])
    have c4 := (hb.cell (p := ⟨w1.heap.size, 4, none⟩) (by first | omega | (simp; omega) | simp)).trans (show _ = some (.int .i64 0) from by simp [go_sem])
    have y4 := ((bcell hb).2 w1.heap.size 4 (by first | omega | (simp; omega) | simp)).trans (show _ = false from by simp [go_sem])
    have p1 := (hb.cell (p := ⟨w1.heap.size + 1, 1, none⟩) (by simp)).trans (show _ = some (.pointer (some ⟨w1.heap.size, 2, none⟩)) from by simp [go_sem])
    have p2 := (hb.cell (p := ⟨w1.heap.size + 1, 2, none⟩) (by simp)).trans (show _ = some (.pointer (some ⟨w1.heap.size, 3, none⟩)) from by simp [go_sem])
    have p3 := (hb.cell (p := ⟨w1.heap.size + 1, 3, none⟩) (by simp)).trans (show _ = some (.pointer (some ⟨w1.heap.size, 4, none⟩)) from by simp [go_sem])
    have hz2 : w1.heap.size + 1 < w2.heap.size := by have := hb.size; simp at this; omega
    have HB2 := hide (show Below w.heap.size w w2 from by
      refine Below.trans ?_ (hb.mono (by first | omega | (simp; omega) | simp))
      have BX := HB1.out
      go_grown)
    clear hb
    go_wp2
    rw [rounds_succ]
    cases hn1 : numL y with
    | none =>
      have HN := hide (cly_num HS.out (.inr (.inl hn1)))
      obtain ⟨v1, v2⟩ := num_no (s := ba y) (by rw [ba_data]; exact hn1)
      have HV1 := hide v1
      have HV2 := hide v2
      clear v1 v2 hn1
      go_wp2_with fail
      refine (impl_readDec (ba y) _ (by omega) (HP.out.below (by have BX := HB2.out; go_grown)) (HY.out.below (by have BX := HB2.out; go_grown))).mono ?_
      rintro e w3 ⟨rfl, hb⟩
      rw [HV1.out, HV2.out]
      replace r0 := (hb.cell (p := ⟨w.heap.size, 0, none⟩) (by first | omega | (simp; omega) | simp)).trans (set_far (by omega) r0)
      replace x0 := ((bcell hb).2 w.heap.size 0 (by first | omega | (simp; omega) | simp)).trans (fz_set x0)
      replace r1 := (hb.cell (p := ⟨w.heap.size, 1, none⟩) (by first | omega | (simp; omega) | simp)).trans (set_far (by omega) r1)
      replace x1 := ((bcell hb).2 w.heap.size 1 (by first | omega | (simp; omega) | simp)).trans (fz_set x1)
      replace r2 := (hb.cell (p := ⟨w.heap.size, 2, none⟩) (by first | omega | (simp; omega) | simp)).trans (set_far (by omega) r2)
      replace x2 := ((bcell hb).2 w.heap.size 2 (by first | omega | (simp; omega) | simp)).trans (fz_set x2)
      replace r3 := (hb.cell (p := ⟨w.heap.size, 3, none⟩) (by first | omega | (simp; omega) | simp)).trans (set_far (by omega) r3)
      replace x3 := ((bcell hb).2 w.heap.size 3 (by first | omega | (simp; omega) | simp)).trans (fz_set x3)
      replace r4 := (hb.cell (p := ⟨w.heap.size, 4, none⟩) (by first | omega | (simp; omega) | simp)).trans (set_far (by omega) r4)
      replace x4 := ((bcell hb).2 w.heap.size 4 (by first | omega | (simp; omega) | simp)).trans (fz_set x4)
      have hz3 : w1.heap.size + 1 < w3.heap.size := by have := hb.size; simp at this; omega
      have HB3 := hide (show Below w.heap.size w w3 from by
        refine Below.trans ?_ (hb.mono (by first | omega | (simp; omega) | simp))
        have BX := HB2.out
        go_grown)
      clear hb
      go_wp2
      refine bodyPost_ret (v := .tuple #[.agg #[.string ⟨#[]⟩, .int .i64 0, .int .i64 0, .int .i64 0, .int .i64 0], .bool false]) ?_ rfl (clay_no HN.out rfl ?_)
      · simp [results, Tryz.results19, go_sem, r0, r1, r2, r3, r4]
      · have BX := HB3.out
        go_grown
    | some k1 =>
      obtain ⟨v1, v2⟩ := num_yes (s := ba y) (n := k1) (by rw [ba_data]; exact hn1)
      have N1 := hide hn1
      have HV1 := hide v1
      have HV2 := hide v2
      clear v1 v2 hn1
      go_wp2_with fail
      refine (impl_readDec (ba y) _ (by omega) (HP.out.below (by have BX := HB2.out; go_grown)) (HY.out.below (by have BX := HB2.out; go_grown))).mono ?_
      rintro e w3 ⟨rfl, hb⟩
      rw [HV1.out, HV2.out]
      replace r0 := (hb.cell (p := ⟨w.heap.size, 0, none⟩) (by first | omega | (simp; omega) | simp)).trans (set_far (by omega) r0)
      replace x0 := ((bcell hb).2 w.heap.size 0 (by first | omega | (simp; omega) | simp)).trans (fz_set x0)
      replace r1 := (hb.cell (p := ⟨w.heap.size, 1, none⟩) (by first | omega | (simp; omega) | simp)).trans (set_far (by omega) r1)
      replace x1 := ((bcell hb).2 w.heap.size 1 (by first | omega | (simp; omega) | simp)).trans (fz_set x1)
      replace r2 := (hb.cell (p := ⟨w.heap.size, 2, none⟩) (by first | omega | (simp; omega) | simp)).trans (set_far (by omega) r2)
      replace x2 := ((bcell hb).2 w.heap.size 2 (by first | omega | (simp; omega) | simp)).trans (fz_set x2)
      replace r3 := (hb.cell (p := ⟨w.heap.size, 3, none⟩) (by first | omega | (simp; omega) | simp)).trans (set_far (by omega) r3)
      replace x3 := ((bcell hb).2 w.heap.size 3 (by first | omega | (simp; omega) | simp)).trans (fz_set x3)
      replace r4 := (hb.cell (p := ⟨w.heap.size, 4, none⟩) (by first | omega | (simp; omega) | simp)).trans (set_far (by omega) r4)
      replace x4 := ((bcell hb).2 w.heap.size 4 (by first | omega | (simp; omega) | simp)).trans (fz_set x4)
      replace a6 := (hb.cell (p := ⟨g, 6, none⟩) (by first | omega | (simp; omega) | simp)).trans (set_far (by omega) a6)
      replace a8 := (hb.cell (p := ⟨g, 8, none⟩) (by first | omega | (simp; omega) | simp)).trans (set_far (by omega) a8)
      replace c0 := (hb.cell (p := ⟨w1.heap.size, 0, none⟩) (by first | omega | (simp; omega) | simp)).trans (set_far (by omega) c0)
      replace y0 := ((bcell hb).2 w1.heap.size 0 (by first | omega | (simp; omega) | simp)).trans (fz_set y0)
      replace c1 := (hb.cell (p := ⟨w1.heap.size, 1, none⟩) (by first | omega | (simp; omega) | simp)).trans (set_at c1)
      replace y1 := ((bcell hb).2 w1.heap.size 1 (by first | omega | (simp; omega) | simp)).trans (fz_set y1)
      replace c2 := (hb.cell (p := ⟨w1.heap.size, 2, none⟩) (by first | omega | (simp; omega) | simp)).trans (set_far (by omega) c2)
      replace y2 := ((bcell hb).2 w1.heap.size 2 (by first | omega | (simp; omega) | simp)).trans (fz_set y2)
      replace c3 := (hb.cell (p := ⟨w1.heap.size, 3, none⟩) (by first | omega | (simp; omega) | simp)).trans (set_far (by omega) c3)
      replace y3 := ((bcell hb).2 w1.heap.size 3 (by first | omega | (simp; omega) | simp)).trans (fz_set y3)
      replace c4 := (hb.cell (p := ⟨w1.heap.size, 4, none⟩) (by first | omega | (simp; omega) | simp)).trans (set_far (by omega) c4)
      replace y4 := ((bcell hb).2 w1.heap.size 4 (by first | omega | (simp; omega) | simp)).trans (fz_set y4)
      replace p2 := (hb.cell (p := ⟨w1.heap.size + 1, 2, none⟩) (by first | omega | (simp; omega) | simp)).trans (set_far (by omega) p2)
      replace p3 := (hb.cell (p := ⟨w1.heap.size + 1, 3, none⟩) (by first | omega | (simp; omega) | simp)).trans (set_far (by omega) p3)
      have hz3 : w1.heap.size + 1 < w3.heap.size := by have := hb.size; simp at this; omega
      have HB3 := hide (show Below w.heap.size w w3 from by
        refine Below.trans ?_ (hb.mono (by first | omega | (simp; omega) | simp))
        have BX := HB2.out
        go_grown)
      clear hb
      go_wp2
      rw [rounds_succ]
      cases hn2 : numL z with
      | none =>
        have HN := hide (cly_num HS.out (.inr (.inr (.inl hn2))))
        obtain ⟨v1, v2⟩ := num_no (s := ba z) (by rw [ba_data]; exact hn2)
        have HV1 := hide v1
        have HV2 := hide v2
        clear v1 v2 hn2
        go_wp2_with fail
        refine (impl_readDec (ba z) _ (by omega) (HP.out.below (by have BX := HB3.out; go_grown)) (HY.out.below (by have BX := HB3.out; go_grown))).mono ?_
        rintro e w4 ⟨rfl, hb⟩
        rw [HV1.out, HV2.out]
        replace r0 := (hb.cell (p := ⟨w.heap.size, 0, none⟩) (by first | omega | (simp; omega) | simp)).trans (set_far (by omega) r0)
        replace x0 := ((bcell hb).2 w.heap.size 0 (by first | omega | (simp; omega) | simp)).trans (fz_set x0)
        replace r1 := (hb.cell (p := ⟨w.heap.size, 1, none⟩) (by first | omega | (simp; omega) | simp)).trans (set_far (by omega) r1)
        replace x1 := ((bcell hb).2 w.heap.size 1 (by first | omega | (simp; omega) | simp)).trans (fz_set x1)
        replace r2 := (hb.cell (p := ⟨w.heap.size, 2, none⟩) (by first | omega | (simp; omega) | simp)).trans (set_far (by omega) r2)
        replace x2 := ((bcell hb).2 w.heap.size 2 (by first | omega | (simp; omega) | simp)).trans (fz_set x2)
        replace r3 := (hb.cell (p := ⟨w.heap.size, 3, none⟩) (by first | omega | (simp; omega) | simp)).trans (set_far (by omega) r3)
        replace x3 := ((bcell hb).2 w.heap.size 3 (by first | omega | (simp; omega) | simp)).trans (fz_set x3)
        replace r4 := (hb.cell (p := ⟨w.heap.size, 4, none⟩) (by first | omega | (simp; omega) | simp)).trans (set_far (by omega) r4)
        replace x4 := ((bcell hb).2 w.heap.size 4 (by first | omega | (simp; omega) | simp)).trans (fz_set x4)
        have hz4 : w1.heap.size + 1 < w4.heap.size := by have := hb.size; simp at this; omega
        have HB4 := hide (show Below w.heap.size w w4 from by
          refine Below.trans ?_ (hb.mono (by first | omega | (simp; omega) | simp))
          have BX := HB3.out
          go_grown)
        clear hb
        go_wp2
        refine bodyPost_ret (v := .tuple #[.agg #[.string ⟨#[]⟩, .int .i64 0, .int .i64 0, .int .i64 0, .int .i64 0], .bool false]) ?_ rfl (clay_no HN.out rfl ?_)
        · simp [results, Tryz.results19, go_sem, r0, r1, r2, r3, r4]
        · have BX := HB4.out
          go_grown
      | some k2 =>
        obtain ⟨v1, v2⟩ := num_yes (s := ba z) (n := k2) (by rw [ba_data]; exact hn2)
        have N2 := hide hn2
        have HV1 := hide v1
        have HV2 := hide v2
        clear v1 v2 hn2
        go_wp2_with fail
        refine (impl_readDec (ba z) _ (by omega) (HP.out.below (by have BX := HB3.out; go_grown)) (HY.out.below (by have BX := HB3.out; go_grown))).mono ?_
        rintro e w4 ⟨rfl, hb⟩
        rw [HV1.out, HV2.out]
        replace r0 := (hb.cell (p := ⟨w.heap.size, 0, none⟩) (by first | omega | (simp; omega) | simp)).trans (set_far (by omega) r0)
        replace x0 := ((bcell hb).2 w.heap.size 0 (by first | omega | (simp; omega) | simp)).trans (fz_set x0)
        replace r1 := (hb.cell (p := ⟨w.heap.size, 1, none⟩) (by first | omega | (simp; omega) | simp)).trans (set_far (by omega) r1)
        replace x1 := ((bcell hb).2 w.heap.size 1 (by first | omega | (simp; omega) | simp)).trans (fz_set x1)
        replace r2 := (hb.cell (p := ⟨w.heap.size, 2, none⟩) (by first | omega | (simp; omega) | simp)).trans (set_far (by omega) r2)
        replace x2 := ((bcell hb).2 w.heap.size 2 (by first | omega | (simp; omega) | simp)).trans (fz_set x2)
        replace r3 := (hb.cell (p := ⟨w.heap.size, 3, none⟩) (by first | omega | (simp; omega) | simp)).trans (set_far (by omega) r3)
        replace x3 := ((bcell hb).2 w.heap.size 3 (by first | omega | (simp; omega) | simp)).trans (fz_set x3)
        replace r4 := (hb.cell (p := ⟨w.heap.size, 4, none⟩) (by first | omega | (simp; omega) | simp)).trans (set_far (by omega) r4)
        replace x4 := ((bcell hb).2 w.heap.size 4 (by first | omega | (simp; omega) | simp)).trans (fz_set x4)
        replace a8 := (hb.cell (p := ⟨g, 8, none⟩) (by first | omega | (simp; omega) | simp)).trans (set_far (by omega) a8)
        replace c0 := (hb.cell (p := ⟨w1.heap.size, 0, none⟩) (by first | omega | (simp; omega) | simp)).trans (set_far (by omega) c0)
        replace y0 := ((bcell hb).2 w1.heap.size 0 (by first | omega | (simp; omega) | simp)).trans (fz_set y0)
        replace c1 := (hb.cell (p := ⟨w1.heap.size, 1, none⟩) (by first | omega | (simp; omega) | simp)).trans (set_far (by omega) c1)
        replace y1 := ((bcell hb).2 w1.heap.size 1 (by first | omega | (simp; omega) | simp)).trans (fz_set y1)
        replace c2 := (hb.cell (p := ⟨w1.heap.size, 2, none⟩) (by first | omega | (simp; omega) | simp)).trans (set_at c2)
        replace y2 := ((bcell hb).2 w1.heap.size 2 (by first | omega | (simp; omega) | simp)).trans (fz_set y2)
        replace c3 := (hb.cell (p := ⟨w1.heap.size, 3, none⟩) (by first | omega | (simp; omega) | simp)).trans (set_far (by omega) c3)
        replace y3 := ((bcell hb).2 w1.heap.size 3 (by first | omega | (simp; omega) | simp)).trans (fz_set y3)
        replace c4 := (hb.cell (p := ⟨w1.heap.size, 4, none⟩) (by first | omega | (simp; omega) | simp)).trans (set_far (by omega) c4)
        replace y4 := ((bcell hb).2 w1.heap.size 4 (by first | omega | (simp; omega) | simp)).trans (fz_set y4)
        replace p3 := (hb.cell (p := ⟨w1.heap.size + 1, 3, none⟩) (by first | omega | (simp; omega) | simp)).trans (set_far (by omega) p3)
        have hz4 : w1.heap.size + 1 < w4.heap.size := by have := hb.size; simp at this; omega
        have HB4 := hide (show Below w.heap.size w w4 from by
          refine Below.trans ?_ (hb.mono (by first | omega | (simp; omega) | simp))
          have BX := HB3.out
          go_grown)
        clear hb
        go_wp2
        rw [rounds_succ]
        cases hn3 : numL u with
        | none =>
          have HN := hide (cly_num HS.out (.inr (.inr (.inr hn3))))
          obtain ⟨v1, v2⟩ := num_no (s := ba u) (by rw [ba_data]; exact hn3)
          have HV1 := hide v1
          have HV2 := hide v2
          clear v1 v2 hn3
          go_wp2_with fail
          refine (impl_readDec (ba u) _ (by omega) (HP.out.below (by have BX := HB4.out; go_grown)) (HY.out.below (by have BX := HB4.out; go_grown))).mono ?_
          rintro e w5 ⟨rfl, hb⟩
          rw [HV1.out, HV2.out]
          replace r0 := (hb.cell (p := ⟨w.heap.size, 0, none⟩) (by first | omega | (simp; omega) | simp)).trans (set_far (by omega) r0)
          replace x0 := ((bcell hb).2 w.heap.size 0 (by first | omega | (simp; omega) | simp)).trans (fz_set x0)
          replace r1 := (hb.cell (p := ⟨w.heap.size, 1, none⟩) (by first | omega | (simp; omega) | simp)).trans (set_far (by omega) r1)
          replace x1 := ((bcell hb).2 w.heap.size 1 (by first | omega | (simp; omega) | simp)).trans (fz_set x1)
          replace r2 := (hb.cell (p := ⟨w.heap.size, 2, none⟩) (by first | omega | (simp; omega) | simp)).trans (set_far (by omega) r2)
          replace x2 := ((bcell hb).2 w.heap.size 2 (by first | omega | (simp; omega) | simp)).trans (fz_set x2)
          replace r3 := (hb.cell (p := ⟨w.heap.size, 3, none⟩) (by first | omega | (simp; omega) | simp)).trans (set_far (by omega) r3)
          replace x3 := ((bcell hb).2 w.heap.size 3 (by first | omega | (simp; omega) | simp)).trans (fz_set x3)
          replace r4 := (hb.cell (p := ⟨w.heap.size, 4, none⟩) (by first | omega | (simp; omega) | simp)).trans (set_far (by omega) r4)
          replace x4 := ((bcell hb).2 w.heap.size 4 (by first | omega | (simp; omega) | simp)).trans (fz_set x4)
          have hz5 : w1.heap.size + 1 < w5.heap.size := by have := hb.size; simp at this; omega
          have HB5 := hide (show Below w.heap.size w w5 from by
            refine Below.trans ?_ (hb.mono (by first | omega | (simp; omega) | simp))
            have BX := HB4.out
            go_grown)
          clear hb
          go_wp2
          refine bodyPost_ret (v := .tuple #[.agg #[.string ⟨#[]⟩, .int .i64 0, .int .i64 0, .int .i64 0, .int .i64 0], .bool false]) ?_ rfl (clay_no HN.out rfl ?_)
          · simp [results, Tryz.results19, go_sem, r0, r1, r2, r3, r4]
          · have BX := HB5.out
            go_grown
        | some k3 =>
          obtain ⟨v1, v2⟩ := num_yes (s := ba u) (n := k3) (by rw [ba_data]; exact hn3)
          have N3 := hide hn3
          have HV1 := hide v1
          have HV2 := hide v2
          clear v1 v2 hn3
          go_wp2_with fail
          refine (impl_readDec (ba u) _ (by omega) (HP.out.below (by have BX := HB4.out; go_grown)) (HY.out.below (by have BX := HB4.out; go_grown))).mono ?_
          rintro e w5 ⟨rfl, hb⟩
          rw [HV1.out, HV2.out]
          replace r0 := (hb.cell (p := ⟨w.heap.size, 0, none⟩) (by first | omega | (simp; omega) | simp)).trans (set_far (by omega) r0)
          replace x0 := ((bcell hb).2 w.heap.size 0 (by first | omega | (simp; omega) | simp)).trans (fz_set x0)
          replace r1 := (hb.cell (p := ⟨w.heap.size, 1, none⟩) (by first | omega | (simp; omega) | simp)).trans (set_far (by omega) r1)
          replace x1 := ((bcell hb).2 w.heap.size 1 (by first | omega | (simp; omega) | simp)).trans (fz_set x1)
          replace r2 := (hb.cell (p := ⟨w.heap.size, 2, none⟩) (by first | omega | (simp; omega) | simp)).trans (set_far (by omega) r2)
          replace x2 := ((bcell hb).2 w.heap.size 2 (by first | omega | (simp; omega) | simp)).trans (fz_set x2)
          replace r3 := (hb.cell (p := ⟨w.heap.size, 3, none⟩) (by first | omega | (simp; omega) | simp)).trans (set_far (by omega) r3)
          replace x3 := ((bcell hb).2 w.heap.size 3 (by first | omega | (simp; omega) | simp)).trans (fz_set x3)
          replace r4 := (hb.cell (p := ⟨w.heap.size, 4, none⟩) (by first | omega | (simp; omega) | simp)).trans (set_far (by omega) r4)
          replace x4 := ((bcell hb).2 w.heap.size 4 (by first | omega | (simp; omega) | simp)).trans (fz_set x4)
          replace c0 := (hb.cell (p := ⟨w1.heap.size, 0, none⟩) (by first | omega | (simp; omega) | simp)).trans (set_far (by omega) c0)
          replace y0 := ((bcell hb).2 w1.heap.size 0 (by first | omega | (simp; omega) | simp)).trans (fz_set y0)
          replace c1 := (hb.cell (p := ⟨w1.heap.size, 1, none⟩) (by first | omega | (simp; omega) | simp)).trans (set_far (by omega) c1)
          replace y1 := ((bcell hb).2 w1.heap.size 1 (by first | omega | (simp; omega) | simp)).trans (fz_set y1)
          replace c2 := (hb.cell (p := ⟨w1.heap.size, 2, none⟩) (by first | omega | (simp; omega) | simp)).trans (set_far (by omega) c2)
          replace y2 := ((bcell hb).2 w1.heap.size 2 (by first | omega | (simp; omega) | simp)).trans (fz_set y2)
          replace c3 := (hb.cell (p := ⟨w1.heap.size, 3, none⟩) (by first | omega | (simp; omega) | simp)).trans (set_at c3)
          replace y3 := ((bcell hb).2 w1.heap.size 3 (by first | omega | (simp; omega) | simp)).trans (fz_set y3)
          replace c4 := (hb.cell (p := ⟨w1.heap.size, 4, none⟩) (by first | omega | (simp; omega) | simp)).trans (set_far (by omega) c4)
          replace y4 := ((bcell hb).2 w1.heap.size 4 (by first | omega | (simp; omega) | simp)).trans (fz_set y4)
          have hz5 : w1.heap.size + 1 < w5.heap.size := by have := hb.size; simp at this; omega
          have HB5 := hide (show Below w.heap.size w w5 from by
            refine Below.trans ?_ (hb.mono (by first | omega | (simp; omega) | simp))
            have BX := HB4.out
            go_grown)
          clear hb
          go_wp2
          rw [rounds_succ]
          go_wp2_with fail
          refine (impl_clayText (ba n) k0 k1 k2 k3 _ (by unfold maxLen; omega) (HP.out.below (by have BX := HB5.out; go_grown))).mono ?_
          rintro e w6 ⟨rfl, hb⟩
          replace r0 := (hb.cell (p := ⟨w.heap.size, 0, none⟩) (by first | omega | (simp; omega) | simp)).trans (set_far (by omega) r0)
          replace x0 := ((bcell hb).2 w.heap.size 0 (by first | omega | (simp; omega) | simp)).trans (fz_set x0)
          replace c0 := (hb.cell (p := ⟨w1.heap.size, 0, none⟩) (by first | omega | (simp; omega) | simp)).trans (set_far (by omega) c0)
          replace r1 := (hb.cell (p := ⟨w.heap.size, 1, none⟩) (by first | omega | (simp; omega) | simp)).trans (set_far (by omega) r1)
          replace x1 := ((bcell hb).2 w.heap.size 1 (by first | omega | (simp; omega) | simp)).trans (fz_set x1)
          replace c1 := (hb.cell (p := ⟨w1.heap.size, 1, none⟩) (by first | omega | (simp; omega) | simp)).trans (set_far (by omega) c1)
          replace r2 := (hb.cell (p := ⟨w.heap.size, 2, none⟩) (by first | omega | (simp; omega) | simp)).trans (set_far (by omega) r2)
          replace x2 := ((bcell hb).2 w.heap.size 2 (by first | omega | (simp; omega) | simp)).trans (fz_set x2)
          replace c2 := (hb.cell (p := ⟨w1.heap.size, 2, none⟩) (by first | omega | (simp; omega) | simp)).trans (set_far (by omega) c2)
          replace r3 := (hb.cell (p := ⟨w.heap.size, 3, none⟩) (by first | omega | (simp; omega) | simp)).trans (set_far (by omega) r3)
          replace x3 := ((bcell hb).2 w.heap.size 3 (by first | omega | (simp; omega) | simp)).trans (fz_set x3)
          replace c3 := (hb.cell (p := ⟨w1.heap.size, 3, none⟩) (by first | omega | (simp; omega) | simp)).trans (set_far (by omega) c3)
          replace r4 := (hb.cell (p := ⟨w.heap.size, 4, none⟩) (by first | omega | (simp; omega) | simp)).trans (set_far (by omega) r4)
          replace x4 := ((bcell hb).2 w.heap.size 4 (by first | omega | (simp; omega) | simp)).trans (fz_set x4)
          replace c4 := (hb.cell (p := ⟨w1.heap.size, 4, none⟩) (by first | omega | (simp; omega) | simp)).trans (set_at c4)
          have HB6 := hide (show Below w.heap.size w w6 from by
            refine Below.trans ?_ (hb.mono (by first | omega | (simp; omega) | simp))
            have BX := HB5.out
            go_grown)
          have hz6 : w1.heap.size + 1 < w6.heap.size := by have := hb.size; simp at this; omega
          clear hb y0 y1 y2 y3 y4
          by_cases hq : Clay.ok ⟨ba n, k0, k1, k2, k3⟩ = true ∧ cText ⟨ba n, k0, k1, k2, k3⟩ = s.data.toList
          · have HN := hide (cly_iff.2 hq)
            have HT := hide (clayT_eq hq)
            have hne : (s.toList != s.toList) = false := by simp
            clear hq
            rw [HT.out]
            go_wp2
            refine bodyPost_ret (v := .tuple #[.agg #[.string (ba n), .int .i64 k0, .int .i64 k1, .int .i64 k2, .int .i64 k3], .bool true]) ?_ rfl (clay_got HN.out rfl ?_)
            · simp [results, Tryz.results19, go_sem, r0, r1, r2, r3, r4]
            · have BX := HB6.out
              go_grown
          · have HN := hide (cly_read HS.out N0.out N1.out N2.out N3.out hq)
            have ht := clayT_ne HNE.out hq
            have hne : ((clayT ⟨ba n, k0, k1, k2, k3⟩).toList != s.toList) = true := by
              simp only [bne_iff_ne, ne_eq]
              exact fun q => ht (toList_inj' q)
            have hne2 : ((clayT ⟨ba n, k0, k1, k2, k3⟩).toList == s.toList) = false := by
              rw [beq_eq_false_iff_ne]
              exact fun q => ht (toList_inj' q)
            clear hq ht
            go_wp2
            refine bodyPost_ret (v := .tuple #[.agg #[.string ⟨#[]⟩, .int .i64 0, .int .i64 0, .int .i64 0, .int .i64 0], .bool false]) ?_ rfl (clay_no HN.out rfl ?_)
            · simp [results, Tryz.results19, go_sem, r0, r1, r2, r3, r4]
            · have BX := HB6.out
              go_grown
theorem impl_readClay (s : ByteArray) (w : World) (hs : s.size ≤ 1048576) (hm : MaxLenIs w) (hp : Pow10 w) (hy : ErrSyn w) :
    Calls Tryz.prog 19 #[.string s] w (ClayPost (clyL s.data.toList) w) := by
  by_cases h : (spl 32 s.data.toList).length = 9
  · obtain ⟨n, a, x, b, y, c, z, d, u, hl⟩ : ∃ n a x b y c z d u, spl 32 s.data.toList = [n, a, x, b, y, c, z, d, u] := by
      match spl 32 s.data.toList, h with
      | [n, a, x, b, y, c, z, d, u], _ => exact ⟨n, a, x, b, y, c, z, d, u, rfl⟩
    exact impl_readClay_nums s w hs hm hp hy n a x b y c z d u hl
  · exact impl_readClay_count s w hs hm h
end Go.Proofs.YtfjdhjbfingofaaGreatDoor
