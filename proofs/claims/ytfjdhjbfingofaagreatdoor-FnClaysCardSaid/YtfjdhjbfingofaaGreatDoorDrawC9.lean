/-
  What is proved: what the reference draws for ReadClay: some short text. Conditions: as for the source.
-/
import Derived.Test.YtfjdhjbfingofaaGreatDoorDrawC7
import Derived.Test.YtfjdhjbfingofaaGreatDoorClayT
import Derived.Deep.RegionWith
import Derived.Deep.QuietTactic
namespace Go.Proofs.YtfjdhjbfingofaaGreatDoor
open Go.RowKit
set_option linter.unusedVariables false

/-- Some text of at most m bytes. -/
def TDrawn (m q : Nat) (w0 w : World) (b : Nat) (A : Option Addr) (n c k : Nat) (e : Ending) (w' : World) : Prop :=
  ∃ (s : ByteArray) (k' : Nat), s.size ≤ m ∧ e = .returned (.string s) ∧ k' ≤ k + q ∧ Src w0 w' b A n c k' ∧ Only b w w'
theorem src_txtD (xs : List ByteArray) (cs : Array Value) (t : TypeId) (hc : cs.toList = xs.map Value.string) (w0 v : World) (b : Nat) (A : Option Addr) (n c k : Nat) (z : List Int) (m : Nat) (hx : xs.length = m) (hm : 1 ≤ m) (hm2 : m ≤ 100) (hk : k < 1099511627774) (ha : ArgInts .u8 w0 A n c z) (hs : Src w0 v b A n c k) (g d : Nat) (hg : g = v.heap.size) :
    Calls Tryz.prog 41 #[.pointer (some ⟨b, 0, none⟩), .slice (some ⟨g, 0, none⟩) m d] (v.alloc (.cells cs t)).drew fun e w' => ∃ (x : ByteArray) (k' : Nat), x ∈ xs ∧ e = .returned (.string x) ∧ k' ≤ k + 2 ∧ Src w0 w' b A n c k' ∧ Only b v w' := by
  subst hg
  have hl := hs.lt
  exact (src_txt w0 _ b A n c k z v.heap.size m d xs hx hm hm2 (by omega) (row_lits (fun _ => rfl) xs (show Blk (v.alloc (.cells cs t)).drew v.heap.size t cs from Blk.new v t cs) hc) hk ha ((hs.alloc _).keep ((Below.refl _ _).drew))).mono fun e w' ⟨x, k', h1, h2, h3, h4, h5⟩ => ⟨x, k', h1, h2, h3, h4, (((Only.refl b v).alloc _).drew).trans h5⟩
set_option maxRecDepth 100000 in
set_option maxHeartbeats 2000000 in
theorem src_l01Spoil (t : ByteArray) (ht : t.size ≤ 100000 - 1) (w0 w : World) (b : Nat) (A : Option Addr) (n c k : Nat) (z : List Int) (hts : t.size ≤ 65000) (hk : k < 1099511620000) (ha : ArgInts .u8 w0 A n c z) (hs : Src w0 w b A n c k) :
    Calls Tryz.prog 54 #[.pointer (some ⟨b, 0, none⟩), .string t] w (TDrawn (t.size + 1) 6 w0 w b A n c k) := by
  have HA := hide ha
  have HS := hide hs
  clear ha hs
  go_enter Tryz.func54, Tryz.ntmps54
  go_wp2_with fail
  refine (src_pick w0 _ b A n c k z 5 (by omega) (by omega) (by omega) HA.out HS.out).mono ?_
  rintro e w1 ⟨v, k1, hv0, hv1, rfl, hk1, hs1, ho1⟩
  have HS1 := hide hs1
  have HO1 := hide ho1
  clear hs1 ho1
  by_cases h2 : 2 ≤ v
  · have b0 : (v == 0) = false := by simp; omega
    have b1 : (v == 1) = false := by simp; omega
    go_wp2
    go_ret
    exact ⟨t, k1, by omega, rfl, by omega, HS1.out, HO1.out⟩
  rcases (show v = 0 ∨ v = 1 from by omega) with rfl | rfl
  · have v9 := Go.IntWalk.i64_in ((t.size : Int) + 1) ⟨by omega, by omega⟩
    go_wp2_with fail
    refine (src_pick w0 _ b A n c k1 z ((t.size : Int) + 1) (by omega) (by omega) (by omega) HA.out HS1.out).mono ?_
    rintro e w2 ⟨v2, k2, hv20, hv21, rfl, hk2, hs2, ho2⟩
    obtain ⟨i, rfl⟩ := Int.eq_ofNat_of_zero_le hv20
    have hi : i ≤ t.size := by omega
    have hi2 : (i : Int) ≤ (t.size : Int) := by omega
    have HS2 := hide hs2
    have HO2 := hide (HO1.out.trans ho2)
    clear hs2 ho2
    have hz2 : b < w2.heap.size := HS2.out.lt
    obtain ⟨Ta, hTa⟩ : ∃ r, t.extract 0 i = r := ⟨_, rfl⟩
    obtain ⟨Tb, hTb⟩ : ∃ r, t.extract i t.size = r := ⟨_, rfl⟩
    have hsa : Ta.size = i := by rw [← hTa, ByteArray.size_extract]; omega
    have hsb : Tb.size + i = t.size := by rw [← hTb, ByteArray.size_extract]; omega
    have HSA := hide hsa
    have HSB := hide hsb
    have u1 : ¬ 9223372036854775807 < Ta.size + 1 := by omega
    have u2 : ¬ 9223372036854775807 < Ta.size + 1 + Tb.size := by omega
    clear hsa hsb
    go_wp2
    go_region_with (go_at_call 41; refine (src_txtD [⟨#[32]⟩, ⟨#[48]⟩, ⟨#[45]⟩, ⟨#[120]⟩, ⟨#[49]⟩, ⟨#[57]⟩, ⟨#[46]⟩] _ _ rfl w0 w2 b A n c k2 z 7 rfl (by omega) (by omega) (by omega) HA.out HS2.out _ _ rfl).mono ?_; rintro e w3 ⟨x, k3, hx, rfl, hk3, hs3, ho3⟩; have HS3 := hide hs3; have HO3 := hide (show Only b w w3 from HO2.out.trans ho3); have HX := hide (show x.size = 1 from by simp at hx; rcases hx with rfl | rfl | rfl | rfl | rfl | rfl | rfl <;> rfl); have hxs : x.size = 1 := HX.out; clear hs3 ho3 hx)
    all_goals
      go_wp2
      go_ret
      refine ⟨_, k3, ?_, rfl, by omega, HS3.out, HO3.out⟩
      rw [ByteArray.size_append, ByteArray.size_append, HX.out]
      have := HSA.out
      have := HSB.out
      omega
  · by_cases h0 : t.size = 0
    · have he : t.toList.isEmpty = true := by
        have : t = ByteArray.empty := by simpa using h0
        subst this
        rw [Lib.toList_data]
        rfl
      go_wp2
      go_ret
      exact ⟨t, k1, by omega, rfl, by omega, HS1.out, HO1.out⟩
    · have hne : t.toList.isEmpty = false := by
        rw [Lib.toList_data]
        cases hd : t.data.toList with
        | nil => exact absurd (by have := congrArg List.length hd; simpa using this) h0
        | cons a l => rfl
      go_wp2_with fail
      refine (src_pick w0 _ b A n c k1 z (t.size : Int) (by omega) (by omega) (by omega) HA.out HS1.out).mono ?_
      rintro e w2 ⟨v2, k2, hv20, hv21, rfl, hk2, hs2, ho2⟩
      obtain ⟨i, rfl⟩ := Int.eq_ofNat_of_zero_le hv20
      have hi : i < t.size := by omega
      have hi2 : (i : Int) ≤ (t.size : Int) := by omega
      have hi3 : (i : Int) + 1 ≤ (t.size : Int) := by omega
      have v9 := Go.IntWalk.i64_in ((i : Int) + 1) ⟨by omega, by omega⟩
      have HS2 := hide hs2
      have HO2 := hide (HO1.out.trans ho2)
      clear hs2 ho2
      go_wp2
      go_quiet (fail)
      go_wp2
      go_ret
      refine ⟨_, k2, ?_, rfl, by omega, HS2.out.keep (below_drewN (Below.refl _ _) _), HO2.out.drewN _⟩
      rw [ByteArray.size_append, ByteArray.size_extract, ByteArray.size_extract]
      omega
theorem cText_short {c : Clay} (hn : c.n.size ≤ 16) (h1 : I64 c.s) (h2 : I64 c.l) (h3 : I64 c.d) (h4 : I64 c.p) : (cText c).length ≤ 140 := by
  have a := itoa_size c.s h1.1 h1.2
  have b := itoa_size c.l h2.1 h2.2
  have d := itoa_size c.d h3.1 h3.2
  have e := itoa_size c.p h4.1 h4.2
  have f : c.n.data.toList.length = c.n.size := by simp
  unfold cText
  simp only [List.length_append, List.length_cons, f]
  have g1 : shrW.length = 6 := rfl
  have g2 : limW.length = 4 := rfl
  have g3 : sanW.length = 4 := rfl
  have g4 : priW.length = 5 := rfl
  omega
theorem ba_sz (l : List UInt8) : (ba l).size = l.length := by
  rw [← ByteArray.size_data]
  simp [ba]
theorem clayT_size {t0 : ByteArray} {t1 t2 t3 t4 : Int} (h : t0.size ≤ 16) : (clayT ⟨t0, t1, t2, t3, t4⟩).size ≤ 1048576 := by
  by_cases hk : Clay.ok ⟨t0, t1, t2, t3, t4⟩ = true
  · rw [clayT_yes hk, ba_sz]
    obtain ⟨-, k1, k2, k3, k4⟩ := of_decide_eq_true hk
    have := cText_short (c := ⟨t0, t1, t2, t3, t4⟩) h ⟨by have := k1.1; show _ ≤ t1; have : 0 ≤ t1 := k1.1; omega, by have : t1 ≤ 200 := k1.2; show t1 ≤ _; omega⟩ ⟨by have : 0 ≤ t2 := k2.1; show _ ≤ t2; omega, by have : t2 ≤ 1000 := k2.2; show t2 ≤ _; omega⟩ ⟨by have : 0 ≤ t3 := k3.1; show _ ≤ t3; omega, by have : t3 ≤ 1000 := k3.2; show t3 ≤ _; omega⟩ ⟨by have : 0 ≤ t4 := k4.1; show _ ≤ t4; omega, by have : t4 ≤ 10000 := k4.2; show t4 ≤ _; omega⟩
    omega
  · rw [clayT_no (by simpa using hk)]
    decide
/-- Some short text. -/
def CPostR (w : World) (e : Ending) (w' : World) : Prop := ∃ s : ByteArray, s.size ≤ 1000 ∧ e = .returned (.string s) ∧ Below w.heap.size w w'
set_option maxRecDepth 100000 in
set_option maxHeartbeats 2000000 in
theorem src_DrawReadClay (w : World) (A : Option Addr) (n c : Nat) (z : List Int) (ha : ArgInts .u8 w A n c z) :
    Calls Tryz.prog 20 #[.slice A n c] w (CPostR w) := by
  have HA := hide ha
  clear ha
  go_enter Tryz.func20, Tryz.ntmps20
  go_wp2_with fail
  refine (src_from _ _ _ _).mono ?_
  rintro e w1 ⟨rfl, hw1⟩
  obtain ⟨hs, hb1⟩ := src_start _ _ _ _ _ hw1
  have HS := hide hs
  have HB := hide hb1
  have hz1 := hs.lt
  clear hs hb1 hw1
  go_wp2_with fail
  refine (src_l03New _ w _ w.heap.size A n c 0 z (by omega) HA.out HS.out).mono ?_
  rintro e w2 ⟨v1, v2, v3, v4, k2, ⟨a0, a1, b0, b1, c0, c1, d0, d1⟩, rfl, hk2, hs2, ho2⟩
  obtain ⟨wA, hwA⟩ : ∃ u, w2.alloc (.cells #[.string ⟨#[115, 97, 110, 100, 121]⟩, .int .i64 (40 + 5 * v1), .int .i64 (10 * v2), .int .i64 (20 * v3), .int .i64 (10 * v4)] 35) = u := ⟨_, rfl⟩
  have HSA := hide (show Src w wA w.heap.size A n c k2 from by rw [← hwA]; exact hs2.alloc _)
  have HOA := hide (show Only w.heap.size w1 wA from by rw [← hwA]; exact ho2.alloc _)
  have hf : Blk wA w2.heap.size 35 #[.string ⟨#[115, 97, 110, 100, 121]⟩, .int .i64 (40 + 5 * v1), .int .i64 (10 * v2), .int .i64 (20 * v3), .int .i64 (10 * v4)] := by rw [← hwA]; exact Blk.new _ _ _
  obtain ⟨p0, p1, p2, p3, p4, fp0, fp1, fp2, fp3, fp4⟩ := five_cells hf
  have CELLS := hide (And.intro p0 (And.intro p1 (And.intro p2 (And.intro p3 p4))))
  have i1 : I64 (40 + 5 * v1) := ⟨by omega, by omega⟩
  have i2 : I64 (10 * v2) := ⟨by omega, by omega⟩
  have i3 : I64 (20 * v3) := ⟨by omega, by omega⟩
  have i4 : I64 (10 * v4) := ⟨by omega, by omega⟩
  have I := hide (And.intro i1 (And.intro i2 (And.intro i3 i4)))
  have hgl := hf.lt
  have HWA := hide hwA
  clear hs2 ho2 hwA hf p0 p1 p2 p3 p4 fp0 fp1 fp2 fp3 fp4 i1 i2 i3 i4 a0 a1 b0 b1 c0 c1 d0 d1
  go_wp2_with fail
  rw [HWA.out]
  refine (spec_l03Text _ _ _ _ _ w2.heap.size 0 _ (by decide) I.out.1 I.out.2.1 I.out.2.2.1 I.out.2.2.2 CELLS.out.1 CELLS.out.2.1 CELLS.out.2.2.1 CELLS.out.2.2.2.1 CELLS.out.2.2.2.2).mono ?_
  rintro e w3 ⟨rfl, hb3⟩
  obtain ⟨T, hT⟩ : ∃ r, ba (cText ⟨⟨#[115, 97, 110, 100, 121]⟩, 40 + 5 * v1, 10 * v2, 20 * v3, 10 * v4⟩) = r := ⟨_, rfl⟩
  have hts : T.size ≤ 140 := by
    rw [← hT, ba_sz]
    exact cText_short (by show (5 : Nat) ≤ 16; omega) I.out.1 I.out.2.1 I.out.2.2.1 I.out.2.2.2
  rw [hT]
  have HS3 := hide (HSA.out.keep hb3)
  have HO3 := hide (HOA.out.trans (Only.of_below hb3))
  have hz3 := HO3.out.size
  clear hb3 hT
  go_wp2_with fail
  refine (src_one w _ w.heap.size A n c k2 z 3 (by omega) (by omega) (by omega) HA.out HS3.out).mono ?_
  rintro e w4 ⟨yes, k4, rfl, hk4, hs4, ho4⟩
  have HS4 := hide hs4
  have HO4 := hide (HO3.out.trans ho4)
  clear hs4 ho4
  cases yes
  · go_wp2
    go_ret
    exact ⟨T, by omega, rfl, HB.out.trans (HO4.out.below (Nat.le_refl _) (by omega))⟩
  · go_wp2_with fail
    refine (src_l01Spoil T (by omega) w _ w.heap.size A n c k4 z (by omega) (by omega) HA.out HS4.out).mono ?_
    rintro e w5 ⟨s, k5, hsz, rfl, hk5, hs5, ho5⟩
    have HO5 := hide (HO4.out.trans ho5)
    clear hs5 ho5
    go_wp2
    go_ret
    exact ⟨s, by omega, rfl, HB.out.trans (HO5.out.below (Nat.le_refl _) (by omega))⟩
end Go.Proofs.YtfjdhjbfingofaaGreatDoor
