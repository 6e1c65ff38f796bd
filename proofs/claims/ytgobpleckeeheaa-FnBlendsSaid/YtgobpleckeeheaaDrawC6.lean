/-
  What is proved: what the reference draws for BlendOfTwo: two clays with short names and a number. Conditions: as for the source.
-/
import Derived.Test.YtgobpleckeeheaaDrawC
import Derived.Deep.RegionHeld3
import Derived.Deep.DeepCutAuto
namespace Go.Proofs.Ytgobpleckeeheaa
open Go.RowKit
set_option linter.unusedVariables false

theorem blk_field {w : World} {g j : Nat} {t : TypeId} {x0 : ByteArray} {x1 x2 x3 x4 : Int} {u : Value} (h : Blk w g t #[.string x0, .int .i64 x1, .int .i64 x2, .int .i64 x3, .int .i64 x4]) (hu : FieldC j u) (hs : x0.size ≤ 16) :
    ∃ (y0 : ByteArray) (y1 y2 y3 y4 : Int), y0.size ≤ 16 ∧ Blk (w.setCell ⟨g, j, none⟩ u) g t #[.string y0, .int .i64 y1, .int .i64 y2, .int .i64 y3, .int .i64 y4] := by
  have s := h.set_ j u
  rcases hu with ⟨rfl, s0, hs0, rfl⟩ | ⟨h1, h5, v, rfl⟩
  · exact ⟨s0, x1, x2, x3, x4, hs0, s⟩
  · match j, h1, h5 with
    | 1, _, _ => exact ⟨x0, v, x2, x3, x4, hs, s⟩
    | 2, _, _ => exact ⟨x0, x1, v, x3, x4, hs, s⟩
    | 3, _, _ => exact ⟨x0, x1, x2, v, x4, hs, s⟩
    | 4, _, _ => exact ⟨x0, x1, x2, x3, v, hs, s⟩
/-- Ten cells of two blocks. -/
def S10 (g h : Nat) (x0 : ByteArray) (x1 x2 x3 x4 : Int) (y0 : ByteArray) (y1 y2 y3 y4 : Int) (w' : World) : Prop :=
  w'.cell? ⟨g, 0, none⟩ = some (.string x0) ∧ w'.cell? ⟨g, 1, none⟩ = some (.int .i64 x1) ∧ w'.cell? ⟨g, 2, none⟩ = some (.int .i64 x2) ∧ w'.cell? ⟨g, 3, none⟩ = some (.int .i64 x3) ∧ w'.cell? ⟨g, 4, none⟩ = some (.int .i64 x4) ∧ w'.cell? ⟨h, 0, none⟩ = some (.string y0) ∧ w'.cell? ⟨h, 1, none⟩ = some (.int .i64 y1) ∧ w'.cell? ⟨h, 2, none⟩ = some (.int .i64 y2) ∧ w'.cell? ⟨h, 3, none⟩ = some (.int .i64 y3) ∧ w'.cell? ⟨h, 4, none⟩ = some (.int .i64 y4)
section
variable {g h : Nat} {x0 : ByteArray} {x1 x2 x3 x4 : Int} {y0 : ByteArray} {y1 y2 y3 y4 : Int} {w : World}
theorem S10.of {t : TypeId} (h1 : Blk w g t #[.string x0, .int .i64 x1, .int .i64 x2, .int .i64 x3, .int .i64 x4]) (h2 : Blk w h t #[.string y0, .int .i64 y1, .int .i64 y2, .int .i64 y3, .int .i64 y4]) : S10 g h x0 x1 x2 x3 x4 y0 y1 y2 y3 y4 w :=
  ⟨h1.cell 0, h1.cell 1, h1.cell 2, h1.cell 3, h1.cell 4, h2.cell 0, h2.cell 1, h2.cell 2, h2.cell 3, h2.cell 4⟩
end
theorem Blk.far5 {w : World} {g r : Nat} {t : TypeId} {cs : Array Value} (h : Blk w g t cs) (hr : g ≠ r) (u0 u1 u2 u3 u4 : Value) : Blk (((((w.setCell ⟨r, 0, none⟩ u0).setCell ⟨r, 1, none⟩ u1).setCell ⟨r, 2, none⟩ u2).setCell ⟨r, 3, none⟩ u3).setCell ⟨r, 4, none⟩ u4) g t cs :=
  ((((h.far (p := ⟨r, 0, none⟩) hr u0).far (p := ⟨r, 1, none⟩) hr u1).far (p := ⟨r, 2, none⟩) hr u2).far (p := ⟨r, 3, none⟩) hr u3).far (p := ⟨r, 4, none⟩) hr u4
/-- Two clays with short names, and a number. -/
def CPostT (w : World) (e : Ending) (w' : World) : Prop :=
  ∃ (x0 : ByteArray) (x1 x2 x3 x4 : Int) (y0 : ByteArray) (y1 y2 y3 y4 v : Int), x0.size ≤ 16 ∧ y0.size ≤ 16 ∧ e = .returned (.tuple #[.agg #[.string x0, .int .i64 x1, .int .i64 x2, .int .i64 x3, .int .i64 x4], .agg #[.string y0, .int .i64 y1, .int .i64 y2, .int .i64 y3, .int .i64 y4], .int .i64 v]) ∧ Below w.heap.size w w'
theorem src_amongD (xs : List Int) (cs : Array Value) (t : TypeId) (hc : cs.toList = xs.map (Value.int .i64)) (w0 v : World) (b : Nat) (A : Option Addr) (n c k : Nat) (z : List Int) (m : Nat) (hx : xs.length = m) (hm : 1 ≤ m) (hm2 : m ≤ 100) (hk : k < 1099511627774) (ha : ArgInts .u8 w0 A n c z) (hs : Src w0 v b A n c k) (g d : Nat) (hg : g = v.heap.size) :
    Calls Try.prog 60 #[.pointer (some ⟨b, 0, none⟩), .slice (some ⟨g, 0, none⟩) m d] (v.alloc (.cells cs t)).drew fun e w' => ∃ (x : Int) (k' : Nat), x ∈ xs ∧ e = .returned (.int .i64 x) ∧ k' ≤ k + 2 ∧ Src w0 w' b A n c k' ∧ Only b v w' := by
  subst hg
  have hl := hs.lt
  exact (src_among w0 _ b A n c k z v.heap.size m d xs hx hm hm2 (by omega) (row_lits (fun _ => rfl) xs (show Blk (v.alloc (.cells cs t)).drew v.heap.size t cs from Blk.new v t cs) hc) hk ha ((hs.alloc _).keep ((Below.refl _ _).drew))).mono fun e w' ⟨x, k', h1, h2, h3, h4, h5⟩ => ⟨x, k', h1, h2, h3, h4, (((Only.refl b v).alloc _).drew).trans h5⟩
set_option maxRecDepth 100000 in
set_option maxHeartbeats 8000000 in
theorem src_DrawBlendOfTwo (w : World) (A : Option Addr) (n c : Nat) (z : List Int) (ha : ArgInts .u8 w A n c z) :
    Calls Try.prog 14 #[.slice A n c] w (CPostT w) := by
  obtain ⟨w0, hw0⟩ : ∃ u, (w.alloc (.cells #[.string ⟨#[]⟩, .int .i64 0, .int .i64 0, .int .i64 0, .int .i64 0] 39)).alloc (.cells #[.string ⟨#[]⟩, .int .i64 0, .int .i64 0, .int .i64 0, .int .i64 0] 39) = u := ⟨_, rfl⟩
  have hb0 : Below w.heap.size w w0 := by rw [← hw0]; exact ((Below.refl _ _).alloc (Nat.le_refl _) _).alloc (by simp) _
  have hz0 : w0.heap.size = w.heap.size + 1 + 1 := by rw [← hw0]; simp
  have hr0 : Blk w0 w.heap.size 39 #[.string ⟨#[]⟩, .int .i64 0, .int .i64 0, .int .i64 0, .int .i64 0] := by rw [← hw0]; exact (Blk.new _ _ _).alloc _
  have hq0 : Blk w0 (w.heap.size + 1) 39 #[.string ⟨#[]⟩, .int .i64 0, .int .i64 0, .int .i64 0, .int .i64 0] := by
    have := Blk.new (w.alloc (.cells #[.string ⟨#[]⟩, .int .i64 0, .int .i64 0, .int .i64 0, .int .i64 0] 39)) 39 #[.string ⟨#[]⟩, .int .i64 0, .int .i64 0, .int .i64 0, .int .i64 0]
    rw [show (w.alloc (.cells #[.string ⟨#[]⟩, .int .i64 0, .int .i64 0, .int .i64 0, .int .i64 0] 39)).heap.size = w.heap.size + 1 from by simp, hw0] at this
    exact this
  have HA := hide (ha.below hb0)
  have HB0 := hide hb0
  have HR0 := hide hr0
  have HQ0 := hide hq0
  have HW0 := hide hw0
  clear ha hb0 hr0 hq0 hw0
  go_enter Try.func14, Try.ntmps14
  go_wp2_with fail
  rw [HW0.out]
  refine (src_from _ _ _ _).mono ?_
  rintro e w1 ⟨rfl, hw1⟩
  obtain ⟨hs, hb1⟩ := src_start _ _ _ _ _ hw1
  have HS := hide hs
  have HB := hide hb1
  have hz1 := hs.lt
  have HR1 := hide (HR0.out.below hb1 (by omega))
  have HQ1 := hide (HQ0.out.below hb1 (by omega))
  obtain ⟨b, hb⟩ : ∃ b, w0.heap.size = b := ⟨_, rfl⟩
  rw [hb] at HS HB hz0 hz1
  have HBB := hide hb
  have hn0 : w.heap.size ≠ b := by omega
  have hn1 : w.heap.size + 1 ≠ b := by omega
  have hwb : w.heap.size + 1 < b := by omega
  have HZ0 := hide hz0
  rw [hb]
  clear hs hb1 hw1 hb HR0 HQ0 hz0
  go_wp2_with fail
  refine (src_l03New _ w0 _ b A n c 0 z (by omega) HA.out HS.out).mono ?_
  rintro e w2 ⟨v1, v2, v3, v4, k2, hv, rfl, hk2, hs2, ho2⟩
  obtain ⟨wA, hwA⟩ : ∃ u, w2.alloc (.cells #[.string ⟨#[114, 101, 100]⟩, .int .i64 (40 + 5 * v1), .int .i64 (10 * v2), .int .i64 (20 * v3), .int .i64 (10 * v4)] 39) = u := ⟨_, rfl⟩
  have hz2 := ho2.size
  have HSA := hide (show Src w0 wA b A n c k2 from by rw [← hwA]; exact hs2.alloc _)
  have HOA := hide (show Only b w1 wA from by rw [← hwA]; exact ho2.alloc _)
  have HRA := hide (show Blk wA w.heap.size 39 #[.string ⟨#[]⟩, .int .i64 0, .int .i64 0, .int .i64 0, .int .i64 0] from by rw [← hwA]; exact (ho2.blk HR1.out hn0).alloc _)
  have HQA := hide (show Blk wA (w.heap.size + 1) 39 #[.string ⟨#[]⟩, .int .i64 0, .int .i64 0, .int .i64 0, .int .i64 0] from by rw [← hwA]; exact (ho2.blk HQ1.out hn1).alloc _)
  have HFA := hide (show Blk wA w2.heap.size 39 #[.string ⟨#[114, 101, 100]⟩, .int .i64 (40 + 5 * v1), .int .i64 (10 * v2), .int .i64 (20 * v3), .int .i64 (10 * v4)] from by rw [← hwA]; exact Blk.new _ _ _)
  have hzA : w2.heap.size < wA.heap.size := by rw [← hwA]; simp
  have HWA := hide hwA
  clear hs2 ho2 hv hwA HS HR1 HQ1
  go_wp2_with fail
  rw [HWA.out]
  refine (src_l03New _ w0 _ b A n c k2 z (by omega) HA.out HSA.out).mono ?_
  rintro e w3 ⟨u1, u2, u3, u4, k3, hv, rfl, hk3, hs3, ho3⟩
  obtain ⟨wB, hwB⟩ : ∃ u, w3.alloc (.cells #[.string ⟨#[98, 108, 117, 101]⟩, .int .i64 (40 + 5 * u1), .int .i64 (10 * u2), .int .i64 (20 * u3), .int .i64 (10 * u4)] 39) = u := ⟨_, rfl⟩
  have hz3 := ho3.size
  have hnf : w2.heap.size ≠ b := by omega
  have HSB := hide (show Src w0 wB b A n c k3 from by rw [← hwB]; exact hs3.alloc _)
  have HOB := hide (show Only b w1 wB from by rw [← hwB]; exact (HOA.out.trans ho3).alloc _)
  have HRB := hide (show Blk wB w.heap.size 39 #[.string ⟨#[]⟩, .int .i64 0, .int .i64 0, .int .i64 0, .int .i64 0] from by rw [← hwB]; exact (ho3.blk HRA.out hn0).alloc _)
  have HQB := hide (show Blk wB (w.heap.size + 1) 39 #[.string ⟨#[]⟩, .int .i64 0, .int .i64 0, .int .i64 0, .int .i64 0] from by rw [← hwB]; exact (ho3.blk HQA.out hn1).alloc _)
  have HFB := hide (show Blk wB w2.heap.size 39 #[.string ⟨#[114, 101, 100]⟩, .int .i64 (40 + 5 * v1), .int .i64 (10 * v2), .int .i64 (20 * v3), .int .i64 (10 * v4)] from by rw [← hwB]; exact (ho3.blk HFA.out hnf).alloc _)
  have HGB := hide (show Blk wB w3.heap.size 39 #[.string ⟨#[98, 108, 117, 101]⟩, .int .i64 (40 + 5 * u1), .int .i64 (10 * u2), .int .i64 (20 * u3), .int .i64 (10 * u4)] from by rw [← hwB]; exact Blk.new _ _ _)
  have hzB : w3.heap.size < wB.heap.size := by rw [← hwB]; simp
  have HWB := hide hwB
  have hng : w3.heap.size ≠ b := by omega
  clear hs3 ho3 hv hwB HSA HOA HRA HQA HFA
  go_wp2_with fail
  rw [HWB.out]
  refine (src_one w0 _ b A n c k3 z 10 (by omega) (by omega) (by omega) HA.out HSB.out).mono ?_
  rintro e w4 ⟨yes, k4, rfl, hk4, hs4, ho4⟩
  have HS4 := hide hs4
  have HO4 := hide (HOB.out.trans ho4)
  have HR4 := hide (ho4.blk HRB.out hn0)
  have HQ4 := hide (ho4.blk HQB.out hn1)
  have HF4 := hide (ho4.blk HFB.out hnf)
  have HG4 := hide (ho4.blk HGB.out hng)
  clear hs4 ho4 HSB HOB HRB HQB HFB HGB
  go_upto_if 15 with fail
  go_cut [] (fun wx => ∃ (y0 : ByteArray) (y1 y2 y3 y4 : Int) (k' : Nat), y0.size ≤ 16 ∧ k' ≤ k4 + 4 ∧ Hid (Blk wx w3.heap.size 39 #[.string y0, .int .i64 y1, .int .i64 y2, .int .i64 y3, .int .i64 y4]) ∧ Hid (Blk wx w2.heap.size 39 #[.string ⟨#[114, 101, 100]⟩, .int .i64 (40 + 5 * v1), .int .i64 (10 * v2), .int .i64 (20 * v3), .int .i64 (10 * v4)]) ∧ Hid (Blk wx w.heap.size 39 #[.string ⟨#[]⟩, .int .i64 0, .int .i64 0, .int .i64 0, .int .i64 0]) ∧ Hid (Blk wx (w.heap.size + 1) 39 #[.string ⟨#[]⟩, .int .i64 0, .int .i64 0, .int .i64 0, .int .i64 0]) ∧ Hid (Src w0 wx b A n c k') ∧ Hid (Only b w1 wx))
  case first =>
    cases yes
    · go_wp2
      go_meet
      exact ⟨_, _, _, _, _, k4, by decide, by omega, HG4, HF4, HR4, HQ4, HS4, HO4⟩
    · obtain ⟨p0, p1, p2, p3, p4, fp0, fp1, fp2, fp3, fp4⟩ := five_cells HG4.out
      have CELLS := hide (And.intro (And.intro p0 (And.intro p1 (And.intro p2 (And.intro p3 p4)))) (And.intro fp0 (And.intro fp1 (And.intro fp2 (And.intro fp3 fp4)))))
      have hgl := HG4.out.lt
      clear p0 p1 p2 p3 p4 fp0 fp1 fp2 fp3 fp4
      go_wp2_with fail
      refine (src_l03Spoil w0 _ b A n c k4 z w3.heap.size 0 _ _ _ _ _ hgl hng CELLS.out.1.1 CELLS.out.1.2.1 CELLS.out.1.2.2.1 CELLS.out.1.2.2.2.1 CELLS.out.1.2.2.2.2 CELLS.out.2.1 CELLS.out.2.2.1 CELLS.out.2.2.2.1 CELLS.out.2.2.2.2.1 CELLS.out.2.2.2.2.2 (by omega) HA.out HS4.out).mono ?_
      rintro e t3 ⟨j, u, m3, t4, hj, rfl, hm3, ts4, to4, rfl⟩
      obtain ⟨y0, y1, y2, y3, y4, hy, hG5⟩ := blk_field (to4.blk HG4.out hng) hj (by decide)
      have HG5 := hide hG5
      have HF5 := hide ((to4.blk HF4.out hnf).far (p := ⟨w3.heap.size, j, none⟩) (by show w2.heap.size ≠ w3.heap.size; omega) u)
      have HR5 := hide ((to4.blk HR4.out hn0).far (p := ⟨w3.heap.size, j, none⟩) (by show w.heap.size ≠ w3.heap.size; omega) u)
      have HQ5 := hide ((to4.blk HQ4.out hn1).far (p := ⟨w3.heap.size, j, none⟩) (by show w.heap.size + 1 ≠ w3.heap.size; omega) u)
      have HS5 := hide (ts4.set_ (p := ⟨w3.heap.size, j, none⟩) hng (by show w0.heap.size ≤ w3.heap.size; have := HBB.out; omega) u)
      have HO5 := hide ((HO4.out.trans to4).set_ (p := ⟨w3.heap.size, j, none⟩) (.inr (by show w1.heap.size ≤ w3.heap.size; omega)) u)
      clear hG5 ts4 to4 hj
      go_wp2
      go_meet
      exact ⟨y0, y1, y2, y3, y4, m3, hy, hm3, HG5, HF5, HR5, HQ5, HS5, HO5⟩
  case rest =>
    obtain ⟨y0, y1, y2, y3, y4, k5, hy, hk5, HG5, HF5, HR5, HQ5, HS5, HO5⟩ := hcut
    clear HS4 HO4 HR4 HQ4 HF4 HG4
    have hl2 := HF5.out.lt
    have hl3 := HG5.out.lt
    go_wp2_with fail
    refine (src_one w0 _ b A n c k5 z 8 (by omega) (by omega) (by omega) HA.out HS5.out).mono ?_
    rintro e w6 ⟨yes, k6, rfl, hk6, hs6, ho6⟩
    have HS6 := hide hs6
    have HO6 := hide (HO5.out.trans ho6)
    have HR6 := hide (show Blk w6.drew w.heap.size 39 #[.string ⟨#[]⟩, .int .i64 0, .int .i64 0, .int .i64 0, .int .i64 0] from ho6.blk HR5.out hn0)
    have HQ6 := hide (show Blk w6.drew (w.heap.size + 1) 39 #[.string ⟨#[]⟩, .int .i64 0, .int .i64 0, .int .i64 0, .int .i64 0] from ho6.blk HQ5.out hn1)
    have HF6 := hide (show Blk w6.drew w2.heap.size 39 #[.string ⟨#[114, 101, 100]⟩, .int .i64 (40 + 5 * v1), .int .i64 (10 * v2), .int .i64 (20 * v3), .int .i64 (10 * v4)] from ho6.blk HF5.out hnf)
    have HG6 := hide (show Blk w6.drew w3.heap.size 39 #[.string y0, .int .i64 y1, .int .i64 y2, .int .i64 y3, .int .i64 y4] from ho6.blk HG5.out hng)
    have hd5 : w.heap.size ≠ w2.heap.size := by omega
    have hd6 : w.heap.size ≠ w3.heap.size := by omega
    have hd7 : w.heap.size + 1 ≠ w2.heap.size := by omega
    have hd8 : w.heap.size + 1 ≠ w3.heap.size := by omega
    have hd1 : w2.heap.size ≠ w.heap.size := by omega
    have hd2 : w3.heap.size ≠ w.heap.size := by omega
    have hd3 : w2.heap.size ≠ w.heap.size + 1 := by omega
    have hd4 : w3.heap.size ≠ w.heap.size + 1 := by omega
    clear hs6 ho6 HS5 HO5 HR5 HQ5 HF5 HG5
    cases yes
    · go_wp2
      go_region_held3 (fun w' => w'.cell? ⟨w2.heap.size, 0, none⟩ = some (.string ⟨#[114, 101, 100]⟩) ∧ w'.cell? ⟨w2.heap.size, 1, none⟩ = some (.int .i64 (40 + 5 * v1)) ∧ w'.cell? ⟨w2.heap.size, 2, none⟩ = some (.int .i64 (10 * v2)) ∧ w'.cell? ⟨w2.heap.size, 3, none⟩ = some (.int .i64 (20 * v3)) ∧ w'.cell? ⟨w2.heap.size, 4, none⟩ = some (.int .i64 (10 * v4)) ∧ w'.cell? ⟨w3.heap.size, 0, none⟩ = some (.string y0) ∧ w'.cell? ⟨w3.heap.size, 1, none⟩ = some (.int .i64 y1) ∧ w'.cell? ⟨w3.heap.size, 2, none⟩ = some (.int .i64 y2) ∧ w'.cell? ⟨w3.heap.size, 3, none⟩ = some (.int .i64 y3) ∧ w'.cell? ⟨w3.heap.size, 4, none⟩ = some (.int .i64 y4))
        (first
          | exact S10.of HF6.out HG6.out
          | exact S10.of (HF6.out.alloc _) (HG6.out.alloc _)
          | go_keep)
        (first
          | (go_at_call 61
             refine (src_pick w0 _ b A n c k6 z 20 (by omega) (by omega) (by omega) HA.out (by first | exact HS6.out | exact HS6.out.keep ((Below.refl _ _).drew))).mono ?_
             rintro e w7 ⟨v7, k7, hv7, hv7', rfl, hk7, hs7, ho7⟩
             have HF7 := hide (ho7.blk HF6.out hnf)
             obtain ⟨p0, p1, p2, p3, p4, fp0, fp1, fp2, fp3, fp4⟩ := five_cells (ho7.blk HF6.out hnf)
             obtain ⟨t0, t1, t2, t3, t4, ft0, ft1, ft2, ft3, ft4⟩ := five_cells (ho7.blk HG6.out hng)
             clear fp0 fp1 fp2 fp3 fp4 ft0 ft1 ft2 ft3 ft4
             have HG7 := hide (ho7.blk HG6.out hng)
             obtain ⟨r0, r1, r2, r3, r4, fr0, fr1, fr2, fr3, fr4⟩ := five_cells (ho7.blk HR6.out hn0)
             obtain ⟨q0, q1, q2, q3, q4, fq0, fq1, fq2, fq3, fq4⟩ := five_cells (ho7.blk HQ6.out hn1)
             have HO7 := hide (show Only b w1 w7 from by first | exact HO6.out.drew.trans ho7 | exact HO6.out.trans ho7)
             have hz7 : w.heap.size + 1 < w7.heap.size := (ho7.blk HQ6.out hn1).lt
             have hz8 : w.heap.size < w7.heap.size := Nat.lt_trans (Nat.lt_succ_self _) hz7
             clear hs7 ho7 HF6 HG6))
      all_goals
        go_wp2
        refine bodyPost_ret (v := .tuple #[.agg #[.string ⟨#[114, 101, 100]⟩, .int .i64 (40 + 5 * v1), .int .i64 (10 * v2), .int .i64 (20 * v3), .int .i64 (10 * v4)], .agg #[.string y0, .int .i64 y1, .int .i64 y2, .int .i64 y3, .int .i64 y4], .int .i64 (IntKind.i64.wrap (40 + IntKind.i64.wrap (5 * v7)))]) ?_ rfl ?_
        · simp [results, Try.results14, go_sem, r0, r1, r2, r3, r4, q0, q1, q2, q3, q4]
          try rfl
        · refine ⟨_, _, _, _, _, y0, y1, y2, y3, y4, _, by decide, hy, rfl, ?_⟩
          have B2 : Below w.heap.size w w7 := (HB0.out.trans (HB.out.mono (by omega))).trans (HO7.out.below (by omega) (by omega))
          go_grown
    · go_wp2
      go_region_held3 (fun w' => w'.cell? ⟨w2.heap.size, 0, none⟩ = some (.string ⟨#[114, 101, 100]⟩) ∧ w'.cell? ⟨w2.heap.size, 1, none⟩ = some (.int .i64 (40 + 5 * v1)) ∧ w'.cell? ⟨w2.heap.size, 2, none⟩ = some (.int .i64 (10 * v2)) ∧ w'.cell? ⟨w2.heap.size, 3, none⟩ = some (.int .i64 (20 * v3)) ∧ w'.cell? ⟨w2.heap.size, 4, none⟩ = some (.int .i64 (10 * v4)) ∧ w'.cell? ⟨w3.heap.size, 0, none⟩ = some (.string y0) ∧ w'.cell? ⟨w3.heap.size, 1, none⟩ = some (.int .i64 y1) ∧ w'.cell? ⟨w3.heap.size, 2, none⟩ = some (.int .i64 y2) ∧ w'.cell? ⟨w3.heap.size, 3, none⟩ = some (.int .i64 y3) ∧ w'.cell? ⟨w3.heap.size, 4, none⟩ = some (.int .i64 y4))
        (first
          | exact S10.of HF6.out HG6.out
          | exact S10.of (HF6.out.alloc _) (HG6.out.alloc _)
          | go_keep)
        (first
          | (go_at_call 60
             refine (src_amongD [-1, 0, 200, 201, 40 + 5 * v1] _ _ rfl w0 w6 b A n c k6 z 5 rfl (by omega) (by omega) (by omega) HA.out HS6.out _ _ rfl).mono ?_
             rintro e w7 ⟨v7, k7, hv7, rfl, hk7, hs7, ho7⟩
             have HF7 := hide (ho7.blk HF6.out hnf)
             obtain ⟨p0, p1, p2, p3, p4, fp0, fp1, fp2, fp3, fp4⟩ := five_cells (ho7.blk HF6.out hnf)
             obtain ⟨t0, t1, t2, t3, t4, ft0, ft1, ft2, ft3, ft4⟩ := five_cells (ho7.blk HG6.out hng)
             clear fp0 fp1 fp2 fp3 fp4 ft0 ft1 ft2 ft3 ft4
             have HG7 := hide (ho7.blk HG6.out hng)
             obtain ⟨r0, r1, r2, r3, r4, fr0, fr1, fr2, fr3, fr4⟩ := five_cells (ho7.blk HR6.out hn0)
             obtain ⟨q0, q1, q2, q3, q4, fq0, fq1, fq2, fq3, fq4⟩ := five_cells (ho7.blk HQ6.out hn1)
             have HO7 := hide (show Only b w1 w7 from by first | exact HO6.out.drew.trans ho7 | exact HO6.out.trans ho7)
             have hz7 : w.heap.size + 1 < w7.heap.size := (ho7.blk HQ6.out hn1).lt
             have hz8 : w.heap.size < w7.heap.size := Nat.lt_trans (Nat.lt_succ_self _) hz7
             clear hs7 ho7 HF6 HG6))
      all_goals
        go_wp2
        refine bodyPost_ret (v := .tuple #[.agg #[.string ⟨#[114, 101, 100]⟩, .int .i64 (40 + 5 * v1), .int .i64 (10 * v2), .int .i64 (20 * v3), .int .i64 (10 * v4)], .agg #[.string y0, .int .i64 y1, .int .i64 y2, .int .i64 y3, .int .i64 y4], .int .i64 (v7)]) ?_ rfl ?_
        · simp [results, Try.results14, go_sem, r0, r1, r2, r3, r4, q0, q1, q2, q3, q4]
          try rfl
        · refine ⟨_, _, _, _, _, y0, y1, y2, y3, y4, _, by decide, hy, rfl, ?_⟩
          have B2 : Below w.heap.size w w7 := (HB0.out.trans (HB.out.mono (by omega))).trans (HO7.out.below (by omega) (by omega))
          go_grown
end Go.Proofs.Ytgobpleckeeheaa
