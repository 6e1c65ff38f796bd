/-
  What is proved: clays as the reference draws them: some list in memory of its own, short names; one spoilt field. Conditions: as for the source.
-/
import Derived.Test.YtfjdhjbfingofaaGreatDoorJoinB
namespace Go.Proofs.YtfjdhjbfingofaaGreatDoor
open Go.RowKit
set_option linter.unusedVariables false

/-- What a spoilt field leaves. -/
def SpoiltC (w0 w : World) (b : Nat) (A : Option Addr) (n c k g o : Nat) (e : Ending) (w' : World) : Prop :=
  ∃ (j : Nat) (u : Value) (k' : Nat) (w1 : World), FieldC j u ∧ e = .returned (.tuple #[]) ∧ k' ≤ k + 4 ∧ Src w0 w1 b A n c k' ∧ Only b w w1 ∧ w' = w1.setCell ⟨g, o + j, none⟩ u
set_option maxRecDepth 100000 in
set_option maxHeartbeats 1000000 in
theorem src_l03Spoil (w0 w : World) (b : Nat) (A : Option Addr) (n c k : Nat) (z : List Int) (g o : Nat) (x0 x1 x2 x3 x4 : Value) (hgl : g < w.heap.size) (hgb : g ≠ b)
    (c0 : w.cell? ⟨g, o, none⟩ = some x0) (c1 : w.cell? ⟨g, o + 1, none⟩ = some x1) (c2 : w.cell? ⟨g, o + 2, none⟩ = some x2) (c3 : w.cell? ⟨g, o + 3, none⟩ = some x3) (c4 : w.cell? ⟨g, o + 4, none⟩ = some x4)
    (f0 : w.frozen? ⟨g, o, none⟩ = false) (f1 : w.frozen? ⟨g, o + 1, none⟩ = false) (f2 : w.frozen? ⟨g, o + 2, none⟩ = false) (f3 : w.frozen? ⟨g, o + 3, none⟩ = false) (f4 : w.frozen? ⟨g, o + 4, none⟩ = false)
    (hk : k < 1099511627700) (ha : ArgInts .u8 w0 A n c z) (hs : Src w0 w b A n c k) :
    Calls Tryz.prog 44 #[.pointer (some ⟨b, 0, none⟩), .pointer (some ⟨g, o, none⟩)] w (SpoiltC w0 w b A n c k g o) := by
  have HA := hide ha
  have HS := hide hs
  have HC := hide (And.intro (And.intro c0 (And.intro c1 (And.intro c2 c4))) (And.intro f0 (And.intro f1 (And.intro f2 f4))))
  clear ha hs c0 c1 c2 c3 c4 f0 f1 f2 f3 f4
  go_enter Tryz.func44, Tryz.ntmps44
  go_wp2_with fail
  refine (src_pick w0 _ b A n c k z 4 (by omega) (by omega) (by omega) HA.out HS.out).mono ?_
  rintro e w1 ⟨v, k1, hv0, hv1, rfl, hk1, hs1, ho1⟩
  have HS1 := hide hs1
  have HO1 := hide ho1
  clear hs1 ho1
  rcases (show v = 0 ∨ v = 1 ∨ v = 2 ∨ v = 3 from by omega) with rfl | rfl | rfl | rfl
  · go_wp2_with fail
    refine (src_txtL [⟨#[]⟩, ⟨#[82, 101, 100]⟩, ⟨#[114, 101, 100]⟩] _ _ rfl w0 _ b A n c k1 z 3 rfl (by omega) (by omega) (by omega) HA.out HS1.out _ _ rfl).mono ?_
    rintro e w2 ⟨v, k2, hv, rfl, hk2, hs2, ho2⟩
    have HO2 := hide (HO1.out.trans ho2)
    have HS2 := hide hs2
    have HF := hide (show FieldC 0 (.string v) from .inl ⟨rfl, v, by simp at hv; rcases hv with rfl | rfl | rfl <;> decide, rfl⟩)
    obtain ⟨⟨c0, c1, c2, c4⟩, f0, f1, f2, f4⟩ := HC.out
    have e0 := ((ocell HO2.out).1 g o hgl hgb).trans c0
    have g0 := ((ocell HO2.out).2 g o hgl hgb).trans f0
    clear hs2 ho2 hv c0 c1 c2 c4 f0 f1 f2 f4
    go_wp2
    go_end0
    exact ⟨0, _, k2, w2, HF.out, rfl, by omega, HS2.out, HO2.out, rfl⟩
  · go_wp2_with fail
    refine (src_amongL [-1, 0, 200, 201, -9223372036854775808] _ _ rfl w0 _ b A n c k1 z 5 rfl (by omega) (by omega) (by omega) HA.out HS1.out _ _ rfl).mono ?_
    rintro e w2 ⟨v, k2, hv, rfl, hk2, hs2, ho2⟩
    have HO2 := hide (HO1.out.trans ho2)
    have HS2 := hide hs2
    have HF := hide (show FieldC 1 (.int .i64 v) from .inr ⟨by omega, by omega, v, rfl⟩)
    obtain ⟨⟨c0, c1, c2, c4⟩, f0, f1, f2, f4⟩ := HC.out
    have e0 := ((ocell HO2.out).1 g (o + 1) hgl hgb).trans c1
    have g0 := ((ocell HO2.out).2 g (o + 1) hgl hgb).trans f1
    clear hs2 ho2 hv c0 c1 c2 c4 f0 f1 f2 f4
    go_wp2
    go_end0
    exact ⟨1, _, k2, w2, HF.out, rfl, by omega, HS2.out, HO2.out, rfl⟩
  · go_wp2_with fail
    refine (src_amongL [-1, 0, 1000, 1001] _ _ rfl w0 _ b A n c k1 z 4 rfl (by omega) (by omega) (by omega) HA.out HS1.out _ _ rfl).mono ?_
    rintro e w2 ⟨v, k2, hv, rfl, hk2, hs2, ho2⟩
    have HO2 := hide (HO1.out.trans ho2)
    have HS2 := hide hs2
    have HF := hide (show FieldC 2 (.int .i64 v) from .inr ⟨by omega, by omega, v, rfl⟩)
    obtain ⟨⟨c0, c1, c2, c4⟩, f0, f1, f2, f4⟩ := HC.out
    have e0 := ((ocell HO2.out).1 g (o + 2) hgl hgb).trans c2
    have g0 := ((ocell HO2.out).2 g (o + 2) hgl hgb).trans f2
    clear hs2 ho2 hv c0 c1 c2 c4 f0 f1 f2 f4
    go_wp2
    go_end0
    exact ⟨2, _, k2, w2, HF.out, rfl, by omega, HS2.out, HO2.out, rfl⟩
  · go_wp2_with fail
    refine (src_amongL [-1, 0, 10000, 10001] _ _ rfl w0 _ b A n c k1 z 4 rfl (by omega) (by omega) (by omega) HA.out HS1.out _ _ rfl).mono ?_
    rintro e w2 ⟨v, k2, hv, rfl, hk2, hs2, ho2⟩
    have HO2 := hide (HO1.out.trans ho2)
    have HS2 := hide hs2
    have HF := hide (show FieldC 4 (.int .i64 v) from .inr ⟨by omega, by omega, v, rfl⟩)
    obtain ⟨⟨c0, c1, c2, c4⟩, f0, f1, f2, f4⟩ := HC.out
    have e0 := ((ocell HO2.out).1 g (o + 4) hgl hgb).trans c4
    have g0 := ((ocell HO2.out).2 g (o + 4) hgl hgb).trans f4
    clear hs2 ho2 hv c0 c1 c2 c4 f0 f1 f2 f4
    go_wp2
    go_end0
    exact ⟨4, _, k2, w2, HF.out, rfl, by omega, HS2.out, HO2.out, rfl⟩
/-- What drawn clays leave: some list of at most m, short names, in memory of its own. -/
def CDrawn (m q : Nat) (w0 w : World) (b : Nat) (A : Option Addr) (n c k : Nat) (e : Ending) (w' : World) : Prop :=
  ∃ (zs : List Clay) (g d k' : Nat), zs.length ≤ m ∧ ShortNames zs ∧ e = .returned (.slice (some ⟨g, 0, none⟩) zs.length d) ∧ Own 35 5 Clay.enc w' w.heap.size w'.heap.size (some ⟨g, 0, none⟩) zs.length d zs ∧ k' ≤ k + q ∧ Src w0 w' b A n c k' ∧ Only b w w'
def sixNames : List ByteArray := [⟨#[114, 101, 100]⟩, ⟨#[98, 108, 117, 101]⟩, ⟨#[109, 97, 114, 108, 45, 50]⟩, ⟨#[115, 97, 110, 100, 121]⟩, ⟨#[103, 114, 101, 121]⟩, ⟨#[102, 97, 116]⟩]
def sixCells : Array Value := #[.string ⟨#[114, 101, 100]⟩, .string ⟨#[98, 108, 117, 101]⟩, .string ⟨#[109, 97, 114, 108, 45, 50]⟩, .string ⟨#[115, 97, 110, 100, 121]⟩, .string ⟨#[103, 114, 101, 121]⟩, .string ⟨#[102, 97, 116]⟩]
theorem six_at {i : Nat} {x : ByteArray} (h : sixNames[i]? = some x) : x.size ≤ 16 := by
  match i, h with
  | 0, h => obtain rfl := Option.some.inj h; decide
  | 1, h => obtain rfl := Option.some.inj h; decide
  | 2, h => obtain rfl := Option.some.inj h; decide
  | 3, h => obtain rfl := Option.some.inj h; decide
  | 4, h => obtain rfl := Option.some.inj h; decide
  | 5, h => obtain rfl := Option.some.inj h; decide
set_option maxRecDepth 100000 in
set_option maxHeartbeats 2000000 in
theorem src_l03Draw (m : Nat) (hm : m ≤ 5) (w0 w : World) (b : Nat) (A : Option Addr) (n c k : Nat) (z : List Int) (hk : k < 1099511620000) (ha : ArgInts .u8 w0 A n c z) (hs : Src w0 w b A n c k) :
    Calls Tryz.prog 57 #[.pointer (some ⟨b, 0, none⟩), .int .i64 (m : Int)] w (CDrawn m 60 w0 w b A n c k) := by
  obtain ⟨i0, hi, hy0, hy1, hy2⟩ := info_parts info_Clay
  have HI := hide hi
  have HY0 := hide hy0
  have HY1 := hide hy1
  have HY2 := hide hy2
  have HA := hide ha
  have hbl := hs.lt
  have hba := hs.base
  have hw0 : w0.heap.size ≤ w.heap.size := hs.2.1.size
  have HS := hide hs
  clear ha hs hi hy0 hy1 hy2
  have HSa := hide ((HS.out.alloc (.cells sixCells 9)).alloc (.cells #[] 35))
  have HE0 := hide (own_empty_at (w.alloc (.cells sixCells 9)) (w.heap.size + 1) 5 35 (w.heap.size + 1) (by simp) (Nat.le_refl _))
  have HB0 := hide ((Blk.new w 9 sixCells).alloc (.cells #[] 35))
  have v9 := Go.IntWalk.i64_in ((m : Int) + 1) ⟨by omega, by omega⟩
  have hn0 : w.heap.size ≠ b := by omega
  go_enter Tryz.func57, Tryz.ntmps57
  go_wp2_with fail
  refine (src_pick w0 _ b A n c k z ((m : Int) + 1) (by omega) (by omega) (by omega) HA.out HSa.out).mono ?_
  rintro e w1 ⟨v, k1, hv0, hv1, rfl, hk1, hs1, ho1⟩
  obtain ⟨T, rfl⟩ := Int.eq_ofNat_of_zero_le hv0
  have hTm : T ≤ m := by omega
  have HO1 := hide ((((Only.refl b w).alloc _).alloc _).trans ho1)
  have HS1 := hide hs1
  have HE := hide (ow_only HE0.out ho1 (by omega))
  have HB1 := hide (ho1.blk HB0.out hn0)
  clear hs1 ho1 HSa HE0 HB0 hv0 hv1 v9
  go_wp2
  go_loopw [6, 7] (fun u3 u4 wr => ∃ (q k' : Nat) (zs : List Clay) (g d : Nat), u4 = .int .i64 (q : Int) ∧ u3 = .slice (some ⟨g, 0, none⟩) zs.length d ∧ zs.length + q = T ∧ k' ≤ k1 + 8 * zs.length ∧ Hid (ShortNames zs) ∧ Hid (wr.ownsRow (w.heap.size + 1) 35 5 (.slice (some ⟨g, 0, none⟩) zs.length d) zs.length (flat Clay.enc zs)) ∧ Hid (Src w0 wr b A n c k') ∧ Hid (Only b w wr) ∧ Hid (Blk wr w.heap.size 9 sixCells)) (fun _ i _ => (intOf i).toNat)
  case atStart => exact ⟨T, k1, [], _, 0, rfl, rfl, by simp, by simp, hide (fun z hz => absurd hz (by simp)), HE, HS1, HO1, HB1⟩
  case round =>
    obtain ⟨q, k', zs, g, d, rfl, rfl, hq, hk', HN, HW, HSr, HOr, HBr⟩ := hrel
    have hzr := HOr.out.size
    have hg := own_lt HW.out
    by_cases hlt : 0 < q
    · obtain ⟨x, hx⟩ : ∃ x, sixNames[zs.length]? = some x := ⟨sixNames[zs.length]'(by show zs.length < 6; omega), List.getElem?_eq_getElem _⟩
      obtain ⟨b9, o9, e9, hb9, a0⟩ := row_at_1 (row_lits (enc := encT) (f := Value.string) (fun _ => rfl) sixNames HBr.out rfl) hx rfl
      obtain ⟨rfl, rfl⟩ : w.heap.size = b9 ∧ 0 = o9 := by injection e9 with h1; injection h1 with h1 h2; exact ⟨h1, h2⟩
      rw [Nat.zero_add] at a0
      have HX := hide (six_at hx)
      have hn6 : (zs.length : Int) < 6 := by omega
      clear e9 hx
      go_wp2_with fail
      refine (src_l03New x w0 _ b A n c k' z (by omega) HA.out HSr.out).mono ?_
      rintro e w7 ⟨v1, v2, v3, v4, k7, hv, rfl, hk7, hs7, ho7⟩
      have HW7 := hide (ow_only HW.out ho7 (by omega))
      have HS7 := hide hs7
      have HO7 := hide (HOr.out.trans ho7)
      have HB7 := hide (ho7.blk HBr.out hn0)
      have hz7 := HO7.out.size
      have hg7 := own_lt HW7.out
      clear hs7 ho7 hv a0
      go_wp2_with (at_builtin; go_loud (refine wpList_append_lies _ rfl _ _ _ rfl (w.heap.size + 1) 35 i0 _ 5 48 Tryz.underlying24 HI.out HY0.out HY1.out HY2.out rfl (by omega) _ zs.length (flat Clay.enc zs) rfl (HW7.out.alloc _) ⟨w7.heap.size, 0, none⟩ 1 1 [.string x, .int .i64 (40 + 5 * v1), .int .i64 (10 * v2), .int .i64 (20 * v3), .int .i64 (10 * v4)] rfl rfl (clayN_at _ _ _ _ _ _ _ _ rfl) clayN_one (by omega) (by unfold maxLen; omega) (by omega) (by simp; omega) (w7.heap.size + 1) (by simp) ?_; intro g2 cap2 w8 hown8 hgrow hat hlt2))
      rw [show flat Clay.enc zs ++ [.string x, .int .i64 (40 + 5 * v1), .int .i64 (10 * v2), .int .i64 (20 * v3), .int .i64 (10 * v4)] = flat Clay.enc (zs ++ [⟨x, 40 + 5 * v1, 10 * v2, 20 * v3, 10 * v4⟩]) from flat_snoc zs ⟨x, 40 + 5 * v1, 10 * v2, 20 * v3, 10 * v4⟩] at hown8
      have HW8 := hide hown8
      have HS8 := hide ((HS7.out.alloc _).grw hgrow (fun q => by have := (HW7.out.lt b q.symm).1; omega) (fun j hj => by have := (HW7.out.lt j hj).1; omega))
      have HO8 := hide ((HO7.out.alloc _).grw hgrow (fun j hj => by have := (HW7.out.lt j hj).1; omega))
      have HB8 := hide ((HB7.out.alloc _).grw hgrow (fun q => by have := (HW7.out.lt _ q.symm).1; omega))
      clear hown8 hgrow hat hlt2
      go_wp2
      go_roundw
      case rel => exact ⟨q - 1, k7, zs ++ [⟨x, 40 + 5 * v1, 10 * v2, 20 * v3, 10 * v4⟩], g2, cap2, int_eq (by omega), by rw [List.length_append]; rfl, by rw [List.length_append]; simp; omega, by rw [List.length_append]; simp; omega, hide (fun y hy => by
        rcases List.mem_append.1 hy with h | h
        · exact HN.out y h
        · rw [List.mem_singleton.1 h]; exact HX.out), by rw [List.length_append]; exact HW8, HS8, HO8, HB8⟩
      case measure => simp [intOf]; omega
    · obtain rfl : q = 0 := by omega
      go_wp2
      go_ret
      exact ⟨zs, g, d, k', by omega, HN.out, rfl, own_entire rfl (owns_low HW.out (by omega)), by omega, HSr.out, HOr.out⟩
end Go.Proofs.YtfjdhjbfingofaaGreatDoor
