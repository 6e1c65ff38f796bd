/-
  What is proved: what the reference draws for ShrinkOf, AddClay and ClayText. Conditions: as for the source.
-/
import Derived.Test.YtfjdhjbfingofaaGreatDoorDrawC3
import Derived.RegionCalls
namespace Go.Proofs.YtfjdhjbfingofaaGreatDoor
open Go.RowKit
set_option linter.unusedVariables false

/-- Some clays, some parts. -/
def CPostP (w : World) (e : Ending) (w' : World) : Prop :=
  ∃ (zs : List Clay) (ps : List Int) (g d g2 d2 : Nat), zs.length ≤ 7 ∧ ps.length ≤ 8 ∧ ShortNames zs ∧ e = .returned (.tuple #[.slice (some ⟨g, 0, none⟩) zs.length d, .slice (some ⟨g2, 0, none⟩) ps.length d2]) ∧ Own 35 5 Clay.enc w' w.heap.size w'.heap.size (some ⟨g, 0, none⟩) zs.length d zs ∧ Row encI 1 w' (some ⟨g2, 0, none⟩) ps ∧ Below w.heap.size w w'
/-- Some clays, some clay. -/
def CPostA (w : World) (e : Ending) (w' : World) : Prop :=
  ∃ (zs : List Clay) (g d : Nat) (x0 : ByteArray) (x1 x2 x3 x4 : Int), zs.length ≤ 7 ∧ ShortNames zs ∧ x0.size ≤ 16 ∧ e = .returned (.tuple #[.slice (some ⟨g, 0, none⟩) zs.length d, .agg #[.string x0, .int .i64 x1, .int .i64 x2, .int .i64 x3, .int .i64 x4]]) ∧ Own 35 5 Clay.enc w' w.heap.size w'.heap.size (some ⟨g, 0, none⟩) zs.length d zs ∧ Below w.heap.size w w'
/-- Some clay. -/
def CPostC (w : World) (e : Ending) (w' : World) : Prop :=
  ∃ (x0 : ByteArray) (x1 x2 x3 x4 : Int), x0.size ≤ 16 ∧ e = .returned (.agg #[.string x0, .int .i64 x1, .int .i64 x2, .int .i64 x3, .int .i64 x4]) ∧ Below w.heap.size w w'
theorem blk_spoil {w : World} {g j : Nat} {t : TypeId} {x0 : ByteArray} {x1 x2 x3 x4 : Int} {u : Value} (h : Blk w g t #[.string x0, .int .i64 x1, .int .i64 x2, .int .i64 x3, .int .i64 x4]) (hu : FieldC j u) (hs : x0.size ≤ 16) :
    ∃ (y0 : ByteArray) (y1 y2 y3 y4 : Int), y0.size ≤ 16 ∧ Blk (w.setCell ⟨g, j, none⟩ u) g t #[.string y0, .int .i64 y1, .int .i64 y2, .int .i64 y3, .int .i64 y4] := by
  have s := h.set_ j u
  rcases hu with ⟨rfl, s0, hs0, rfl⟩ | ⟨h1, h5, v, rfl⟩
  · exact ⟨s0, x1, x2, x3, x4, hs0, s⟩
  · match j, h1, h5 with
    | 1, _, _ => exact ⟨x0, v, x2, x3, x4, hs, s⟩
    | 2, _, _ => exact ⟨x0, x1, v, x3, x4, hs, s⟩
    | 3, _, _ => exact ⟨x0, x1, x2, v, x4, hs, s⟩
    | 4, _, _ => exact ⟨x0, x1, x2, x3, v, hs, s⟩
theorem far_five {w : World} {lo k n r : Nat} {t : TypeId} {v : Value} {L : List Value} (h : w.ownsRow lo t k v n L) (hr : r < lo) (u0 u1 u2 u3 u4 : Value) :
    (((((w.setCell ⟨r, 0, none⟩ u0).setCell ⟨r, 1, none⟩ u1).setCell ⟨r, 2, none⟩ u2).setCell ⟨r, 3, none⟩ u3).setCell ⟨r, 4, none⟩ u4).ownsRow lo t k v n L :=
  ow_far (ow_far (ow_far (ow_far (ow_far h (p := ⟨r, 0, none⟩) hr u0) (p := ⟨r, 1, none⟩) hr u1) (p := ⟨r, 2, none⟩) hr u2) (p := ⟨r, 3, none⟩) hr u3) (p := ⟨r, 4, none⟩) hr u4
set_option maxRecDepth 100000 in
set_option maxHeartbeats 2000000 in
theorem src_DrawShrinkOf (w : World) (A : Option Addr) (n c : Nat) (z : List Int) (ha : ArgInts .u8 w A n c z) :
    Calls Tryz.prog 5 #[.slice A n c] w (CPostP w) := by
  have HA := hide ha
  clear ha
  go_enter Tryz.func5, Tryz.ntmps5
  go_wp2_with fail
  refine (src_from _ _ _ _).mono ?_
  rintro e w1 ⟨rfl, hw1⟩
  obtain ⟨hs, hb1⟩ := src_start _ _ _ _ _ hw1
  have HS := hide hs
  have HB := hide hb1
  have hz1 := hs.lt
  clear hs hb1 hw1
  go_wp2_with fail
  refine (src_l03Both w _ w.heap.size A n c 0 z (by omega) HA.out HS.out).mono ?_
  rintro e w2 ⟨zs, ps, g, d, g2, d2, k2, hl2, hp2, hnm, rfl, hw2, hr2, hg2, hk2, hs2, ho2⟩
  obtain ⟨nz, hnz⟩ : ∃ r, zs.length = r := ⟨_, rfl⟩
  obtain ⟨np, hnp⟩ : ∃ r, ps.length = r := ⟨_, rfl⟩
  rw [hnz] at hw2 hl2 ⊢
  rw [hnp] at hp2 ⊢
  have HNZ := hide hnz
  have HNP := hide hnp
  have HN := hide hnm
  have HW2 := hide hw2.own
  have HP2 := hide hr2
  have HO2 := hide ho2
  clear hs2 ho2 hw2 hr2 hnz hnp hnm HS
  go_wp2
  go_ret2
  exact ⟨zs, ps, g, d, g2, d2, by rw [HNZ.out]; exact hl2, by rw [HNP.out]; exact hp2, HN.out, by rw [HNZ.out, HNP.out]; rfl, by rw [HNZ.out]; exact own_entire HNZ.out (owns_low HW2.out (by omega)), HP2.out, HB.out.trans (HO2.out.below (Nat.le_refl _) (by omega))⟩
set_option maxRecDepth 100000 in
set_option maxHeartbeats 4000000 in
theorem src_DrawClayText (w : World) (A : Option Addr) (n c : Nat) (z : List Int) (ha : ArgInts .u8 w A n c z) :
    Calls Tryz.prog 17 #[.slice A n c] w (CPostC w) := by
  obtain ⟨w0, hw0⟩ : ∃ u, w.alloc (.cells #[.string ⟨#[]⟩, .int .i64 0, .int .i64 0, .int .i64 0, .int .i64 0] 35) = u := ⟨_, rfl⟩
  have hb0 : Below w.heap.size w w0 := by rw [← hw0]; exact (Below.refl _ _).alloc (Nat.le_refl _) _
  have hz0 : w0.heap.size = w.heap.size + 1 := by rw [← hw0]; simp
  have hr0 : Blk w0 w.heap.size 35 #[.string ⟨#[]⟩, .int .i64 0, .int .i64 0, .int .i64 0, .int .i64 0] := by rw [← hw0]; exact Blk.new _ _ _
  have HA := hide (ha.below hb0)
  have HB0 := hide hb0
  have HR0 := hide hr0
  have HW0 := hide hw0
  clear ha hb0 hr0 hw0
  go_enter Tryz.func17, Tryz.ntmps17
  go_wp2_with fail
  rw [HW0.out]
  refine (src_from _ _ _ _).mono ?_
  rintro e w1 ⟨rfl, hw1⟩
  obtain ⟨hs, hb1⟩ := src_start _ _ _ _ _ hw1
  have HS := hide hs
  have HB := hide hb1
  have hz1 := hs.lt
  have HR1 := hide (HR0.out.below hb1 (by omega))
  obtain ⟨b, hb⟩ : ∃ b, w0.heap.size = b := ⟨_, rfl⟩
  rw [hb] at HS HB hz0 hz1
  have HBB := hide hb
  have hn0 : w.heap.size ≠ b := by omega
  have hwb : w.heap.size < b := by omega
  have HZ0 := hide hz0
  rw [hb]
  clear hs hb1 hw1 hb HR0 hz0
  have HO1 := hide (Only.refl b w1)
  go_wp2_with fail
  refine (src_l03New ⟨#[109, 97, 114, 108, 45, 50]⟩ w0 _ b A n c 0 z (by omega) HA.out HS.out).mono ?_
  rintro e wc ⟨v1, v2, v3, v4, kc, hv, rfl, hkc, hsc, hoc⟩
  obtain ⟨wA, hwA⟩ : ∃ u, wc.alloc (.cells #[.string ⟨#[109, 97, 114, 108, 45, 50]⟩, .int .i64 (40 + 5 * v1), .int .i64 (10 * v2), .int .i64 (20 * v3), .int .i64 (10 * v4)] 35) = u := ⟨_, rfl⟩
  have hzc := hoc.size
  have CSA := hide (show Src w0 wA b A n c kc from by rw [← hwA]; exact hsc.alloc _)
  have COA := hide (show Only b w1 wA from by rw [← hwA]; exact (HO1.out.trans hoc).alloc _)
  have CRA := hide (show Blk wA w.heap.size 35 #[.string ⟨#[]⟩, .int .i64 0, .int .i64 0, .int .i64 0, .int .i64 0] from by rw [← hwA]; exact (hoc.blk HR1.out hn0).alloc _)
  have CFA := hide (show Blk wA wc.heap.size 35 #[.string ⟨#[109, 97, 114, 108, 45, 50]⟩, .int .i64 (40 + 5 * v1), .int .i64 (10 * v2), .int .i64 (20 * v3), .int .i64 (10 * v4)] from by rw [← hwA]; exact Blk.new _ _ _)
  have hzA : wc.heap.size < wA.heap.size := by rw [← hwA]; simp
  have hw1c : w1.heap.size ≤ wc.heap.size := by have := (HO1.out.trans hoc).size; exact this
  have hnc : wc.heap.size ≠ b := by omega
  have CWE := hide hwA
  clear hsc hoc hv hwA
  go_wp2_with fail
  rw [CWE.out]
  refine (src_one w0 _ b A n c kc z 4 (by omega) (by omega) (by omega) HA.out CSA.out).mono ?_
  rintro e wd ⟨yes, kd, rfl, hkd, hsd, hod⟩
  have CS2 := hide hsd
  have CO2 := hide (COA.out.trans hod)
  have CR2 := hide (hod.blk CRA.out hn0)
  have CF2 := hide (hod.blk CFA.out hnc)
  clear hsd hod
  cases yes
  · obtain ⟨x0, x1, x2, x3, x4, hx0, hxe⟩ : ∃ (x0 : ByteArray) (x1 x2 x3 x4 : Int), x0.size ≤ 16 ∧ Blk wd wc.heap.size 35 #[.string x0, .int .i64 x1, .int .i64 x2, .int .i64 x3, .int .i64 x4] := ⟨_, _, _, _, _, (by decide), CF2.out⟩
    have CF3 := hide hxe
    clear hxe
    obtain ⟨p0, p1, p2, p3, p4, fp0, fp1, fp2, fp3, fp4⟩ := five_cells (CF3.out)
    obtain ⟨r0, r1, r2, r3, r4, fr0, fr1, fr2, fr3, fr4⟩ := five_cells (CR2.out)
    clear fp0 fp1 fp2 fp3 fp4
    have hz9 : w.heap.size < wd.heap.size := CR2.out.lt
    go_wp2
    refine bodyPost_ret (v := .agg #[.string x0, .int .i64 x1, .int .i64 x2, .int .i64 x3, .int .i64 x4]) ?_ rfl ?_
    · simp [results, Tryz.results17, go_sem, r0, r1, r2, r3, r4]
    · refine ⟨x0, x1, x2, x3, x4, hx0, rfl, ?_⟩
      have B2 : Below w.heap.size w wd := (HB0.out.trans (HB.out.mono (by omega))).trans (CO2.out.below (by omega) (by omega))
      go_grown
  · obtain ⟨p0, p1, p2, p3, p4, fp0, fp1, fp2, fp3, fp4⟩ := five_cells (CF2.out)
    have CELLS := hide (And.intro (And.intro p0 (And.intro p1 (And.intro p2 (And.intro p3 p4)))) (And.intro fp0 (And.intro fp1 (And.intro fp2 (And.intro fp3 fp4)))))
    have hgl := CF2.out.lt
    clear p0 p1 p2 p3 p4 fp0 fp1 fp2 fp3 fp4
    go_wp2_with fail
    refine (src_l03Spoil w0 _ b A n c kd z wc.heap.size 0 _ _ _ _ _ hgl hnc CELLS.out.1.1 CELLS.out.1.2.1 CELLS.out.1.2.2.1 CELLS.out.1.2.2.2.1 CELLS.out.1.2.2.2.2 CELLS.out.2.1 CELLS.out.2.2.1 CELLS.out.2.2.2.1 CELLS.out.2.2.2.2.1 CELLS.out.2.2.2.2.2 (by omega) HA.out CS2.out).mono ?_
    rintro e t3 ⟨j, u, m3, t4, hj, rfl, hm3, ts4, to4, rfl⟩
    obtain ⟨x0, x1, x2, x3, x4, hx0, hG5⟩ := blk_spoil (to4.blk CF2.out hnc) hj (by decide)
    obtain ⟨we, hwe⟩ : ∃ v, t4.setCell ⟨wc.heap.size, j, none⟩ u = v := ⟨_, rfl⟩
    have CF3 := hide (show Blk we wc.heap.size 35 #[.string x0, .int .i64 x1, .int .i64 x2, .int .i64 x3, .int .i64 x4] from by rw [← hwe]; exact hG5)
    have CR3 := hide (show Blk we w.heap.size 35 #[.string ⟨#[]⟩, .int .i64 0, .int .i64 0, .int .i64 0, .int .i64 0] from by rw [← hwe]; exact (to4.blk CR2.out hn0).far (p := ⟨wc.heap.size, j, none⟩) (by show w.heap.size ≠ wc.heap.size; omega) u)
    have CO3 := hide (show Only b w1 we from by rw [← hwe]; exact (CO2.out.trans to4).set_ (p := ⟨wc.heap.size, j, none⟩) (.inr (by show w1.heap.size ≤ wc.heap.size; omega)) u)
    rw [show (t4.setCell ⟨wc.heap.size, 0 + j, none⟩ u) = we from by rw [Nat.zero_add]; exact hwe]
    clear hG5 ts4 to4 hj hwe
    obtain ⟨p0, p1, p2, p3, p4, fp0, fp1, fp2, fp3, fp4⟩ := five_cells (CF3.out)
    obtain ⟨r0, r1, r2, r3, r4, fr0, fr1, fr2, fr3, fr4⟩ := five_cells (CR3.out)
    clear fp0 fp1 fp2 fp3 fp4
    have hz9 : w.heap.size < we.heap.size := CR3.out.lt
    go_wp2
    refine bodyPost_ret (v := .agg #[.string x0, .int .i64 x1, .int .i64 x2, .int .i64 x3, .int .i64 x4]) ?_ rfl ?_
    · simp [results, Tryz.results17, go_sem, r0, r1, r2, r3, r4]
    · refine ⟨x0, x1, x2, x3, x4, hx0, rfl, ?_⟩
      have B2 : Below w.heap.size w we := (HB0.out.trans (HB.out.mono (by omega))).trans (CO3.out.below (by omega) (by omega))
      go_grown
end Go.Proofs.YtfjdhjbfingofaaGreatDoor
