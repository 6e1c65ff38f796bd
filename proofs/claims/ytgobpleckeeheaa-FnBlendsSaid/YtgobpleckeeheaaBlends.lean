/-
  What is proved: the contract of impl.blends: it hands all good blends, in order, to a function value that keeps an invariant. Conditions: valid clays and limits, at most 12 parts.
-/
import Derived.Test.YtgobpleckeeheaaGood
import Derived.Test.YtgobpleckeeheaaBFault
import Derived.Test.YtgobpleckeeheaaOwned
import Derived.Test.YtgobpleckeeheaaIntS
import Derived.Test.YtgobpleckeeheaaRowSet
import Derived.OwnWalk
import Derived.Deep.RegionHeld3
import Derived.Deep.AppendLies
import Derived.Deep.RegionWith
namespace Go.Proofs.Ytgobpleckeeheaa
open Go.RowKit
set_option linter.unusedVariables false

theorem info_int64 : (Try.prog.info? 2).map (fun i => (i.zero, i.size, i.bytes)) = some (some (.int .i64 0), 1, 8) := by kernel_rfl
theorem Touch.trans {lo hi : Nat} {u v w : World} (h : Touch lo hi u v) (k : Touch lo hi v w) : Touch lo hi u w :=
  ⟨k.os.trans h.os, k.tape.trans h.tape, k.output.trans h.output, Nat.le_trans h.size k.size, fun i hi' h' => (k.block i (Nat.lt_of_lt_of_le hi' h.size) h').trans (h.block i hi' h')⟩
theorem Touch.and_below {lo hi : Nat} {u v w : World} (h : Touch lo hi u v) (k : Below v.heap.size v w) : Touch lo hi u w :=
  ⟨k.os.trans h.os, k.tape.trans h.tape, k.output.trans h.output, Nat.le_trans h.size k.size, fun i hi' h' => (k.block i (Nat.lt_of_lt_of_le hi' h.size)).trans (h.block i hi' h')⟩
theorem Touch.of_below (lo hi : Nat) {v w : World} (k : Below v.heap.size v w) : Touch lo hi v w := (Touch.refl lo hi v).and_below k
theorem Touch.cell2 {lo hi b i : Nat} {w w' : World} (h : Touch lo hi w w') (h1 : b < lo ∨ hi ≤ b) (h2 : b < w.heap.size) : w'.cell? ⟨b, i, none⟩ = w.cell? ⟨b, i, none⟩ :=
  World.cell?_of_block (h.block b h2 h1)
theorem Row.touch {α : Type} {enc : α → List Value} {k lo hi : Nat} {w w' : World} {A : Option Addr} {xs : List α} (h : Row enc k w A xs) (ht : Touch lo hi w w') (hd : ∀ a, A = some a → a.block < lo ∨ hi ≤ a.block) : Row enc k w' A xs := fun hn => by
  obtain ⟨b, off, e, hlt, hc⟩ := h hn
  have hbl : w'.heap[b]? = w.heap[b]? := ht.block b hlt (hd _ e)
  exact ⟨b, off, e, Nat.lt_of_lt_of_le hlt ht.size, fun i x hi j v hv => (World.cell?_of_block (w := w) (a := ⟨b, off + (i * k + j), none⟩) hbl).trans (hc i x hi j v hv)⟩
theorem own_weak2 {w : World} {base base' size n : Nat} {t : TypeId} {v : Value} {xs : List Value} (h : w.ownsRow base t size v n xs) (hb : base' ≤ base) : w.ownsRow base' t size v n xs :=
  ⟨h.1, h.2.imp id (fun ⟨g, a, b, h1, h2, h3⟩ => ⟨g, a, b, h1, Nat.le_trans hb h2, h3⟩)⟩
theorem news_kept {w w4 : World} {v : Value} {t : TypeId} {B : Nat} (hb : Below B (w.alloc (.cells #[v] t)) w4) (hB : w.heap.size < B) : ∀ (j : Nat) (u : Value), [v][j]? = some u → w4.cell? ((⟨w.heap.size, 0, none⟩ : Addr).add j) = some u := by
  intro j u hj
  refine (hb.cell ?_).trans (cell_new_at w v t _ rfl j u hj)
  unfold Addr.add
  split <;> exact hB
/-- What a list of the call's own looks like: nil, or a block from its start. -/
def Headed (D : Option Addr) (n d : Nat) : Prop := (D = none ∧ n = 0 ∧ d = 0) ∨ ∃ g, D = some ⟨g, 0, none⟩
theorem ints_one {xs : List Int} : ∀ u ∈ flat encI xs, u.oneCell' = true := by
  rw [flatI_map]
  intro u hu
  obtain ⟨x, -, rfl⟩ := List.mem_map.1 hu
  rfl
theorem int_one {x : Int} : ∀ u ∈ [Value.int .i64 x], u.oneCell' = true := fun u hu => by
  obtain rfl := List.mem_singleton.1 hu
  rfl
theorem parts_push {ds : List Int} {k : Nat} (h : partsIn ds = true) (hk : k ≤ 12) : partsIn (ds ++ [(k : Int)]) = true := by
  unfold partsIn at h ⊢
  rw [List.all_append, h]
  have : inP 0 1000 (k : Int) = true := decide_eq_true ⟨by omega, by omega⟩
  simp [this]
theorem cloneInt_nil (w : World) :
    Calls Try.prog 44 #[.slice none 0 0] w fun e w' => e = .returned (.slice none 0 0) ∧ w = w' := by
  have hnilq : ∀ W : World, (binOp .eql 29 (.slice none 0 0) (.slice none 0 0)).run Try.prog W = .ok (.bool true) W := fun W => Lib.run_eql_slice_nil W _ _ _ _ _ _ _ Try.underlying29
  go_enter Try.func44, Try.ntmps44
  go_wp2
  go_ret
  exact ⟨rfl, rfl⟩
set_option maxHeartbeats 1000000 in
theorem cloneInt_some (b off n c : Nat) (zs : List Int) (w : World) (hn : n ≤ 16777216) (hl : zs.length = n) (h : Row encI 1 w (some ⟨b, off, none⟩) zs) :
    Calls Try.prog 44 #[.slice (some ⟨b, off, none⟩) n c] w fun e w' => ∃ g c', e = .returned (.slice (some ⟨g, 0, none⟩) n c') ∧ w'.ownsRow w.heap.size 2 1 (.slice (some ⟨g, 0, none⟩) n c') n (flat encI zs) ∧ Below w.heap.size w w' := by
  obtain ⟨i0, hi, hz0, hz1, hz2⟩ := info_parts info_int64
  have HA := hide h
  have HI := hide hi
  have HZ0 := hide hz0
  have HZ1 := hide hz1
  have HZ2 := hide hz2
  have hnm : n ≤ 9223372036854775807 := by omega
  clear h hi hz0 hz1 hz2
  have hnilq : ∀ W : World, (binOp .eql 29 (.slice (some ⟨b, off, none⟩) n c) (.slice none 0 0)).run Try.prog W = .ok (.bool false) W := fun W => Lib.run_eql_slice_nil W _ _ _ _ _ _ _ Try.underlying29
  go_enter Try.func44, Try.ntmps44
  have HO := hide (own_empty w w.heap.size 1 2 (Nat.le_refl _))
  have HB := hide ((Below.refl w.heap.size w).alloc (Nat.le_refl _) (.cells #[] 2))
  have hrn := row_news (k := 1) (fun _ => rfl) (by omega) (HA.out.below HB.out)
  have HR := hide hrn
  clear hrn
  have hfl := flat_length (enc := encI) (k := 1) (fun _ => rfl) zs
  rw [hl] at hfl
  have HF := hide hfl
  clear hfl hl
  go_wp2_with (first
    | (at_builtin
       refine wpList_append_own _ rfl _ _ 29 rfl w.heap.size 2 i0 _ 1 8 Try.underlying29 HI.out HZ0.out HZ1.out HZ2.out rfl (by decide) _ _ _ rfl HO.out ⟨b, off, none⟩ n c (flat encI zs) rfl HF.out HR.out ints_one (by unfold maxLen; omega) (by omega) (by simp <;> omega) ?_
       intro v' w1 hown' hgrow hnil
       rw [Nat.zero_add, List.nil_append] at hown'
       have HB2 := hide (Below.grown HB.out hgrow (by simp <;> omega) (fun j hj => (HO.out.lt j hj).1))
       clear hgrow
       rcases hown'.2 with ⟨hq, _⟩ | ⟨g, cap, cur, rfl, hgb, _, _⟩
       · cases (hnil.1 hq).1
       clear hnil
       have HO2 := hide hown'
       clear hown'))
  go_wp2
  go_ret
  exact ⟨g, cap, rfl, HO2.out, HB2.out⟩
/-- A copy of a list of ints, nil or not. -/
theorem cloneInt (D : Option Addr) (n d : Nat) (zs : List Int) (w : World) (hn : n ≤ 16777216) (hl : zs.length = n) (hD : Headed D n d) (h : Row encI 1 w D zs) :
    Calls Try.prog 44 #[.slice D n d] w fun e w' => ∃ D' d', e = .returned (.slice D' n d') ∧ w'.ownsRow w.heap.size 2 1 (.slice D' n d') n (flat encI zs) ∧ Headed D' n d' ∧ Below w.heap.size w w' := by
  rcases hD with ⟨rfl, rfl, rfl⟩ | ⟨g, rfl⟩
  · obtain rfl : zs = [] := List.length_eq_zero_iff.1 hl
    refine (cloneInt_nil w).mono ?_
    rintro e w' ⟨rfl, rfl⟩
    exact ⟨none, 0, rfl, ⟨by simp [flat], .inl ⟨rfl, rfl⟩⟩, .inl ⟨rfl, rfl, rfl⟩, Below.refl _ _⟩
  · refine (cloneInt_some g 0 n d zs w hn hl h).mono ?_
    rintro e w' ⟨g', c', rfl, ho, hb⟩
    exact ⟨_, _, rfl, ho, .inr ⟨g', rfl⟩, hb⟩
structure Yields1 (F : Nat) (x1 : Value) (lo hi n : Nat) (A : Option Addr) (zs : List Clay) (Inv : List (List Int) → World → Prop) (Bd : Nat) : Prop where
  enters : ∀ (args : Array Value) (W : World), (callFunc F args).run Try.prog W = .ok (.enter F args) W
  move : ∀ L W W', hi ≤ W.heap.size → Inv L W → Below W.heap.size W W' → Inv L W'
  call : ∀ L ds D d W, hi ≤ W.heap.size → Inv L W → L.length < Bd → partsIn ds = true → ds.length = n → Headed D n d → Row Clay.enc 5 W A zs → Row encI 1 W D ds →
    Calls Try.prog F #[.slice D n d, x1] W fun e W' => e = .returned (.tuple #[]) ∧ Inv (L ++ [ds]) W' ∧ Touch lo hi W W'
set_option maxRecDepth 100000 in
set_option maxHeartbeats 4000000 in
theorem impl_blends1 (F : Nat) (x1 : Value) (lo hi n c : Nat) (A : Option Addr) (zs : List Clay) (l h m s : Int) (Inv : List (List Int) → World → Prop) (Bd : Nat)
    (hY : Yields1 F x1 lo hi n A zs Inv Bd) (hn : n ≤ 6) (hl : zs.length = n) (hz : claysOk zs = true) (hx : LimOk l h m s) (hA : ∀ a, A = some a → a.block < lo ∨ hi ≤ a.block) :
    ∀ (rem : Nat) (L : List (List Int)) (ds : List Int) (D : Option Addr) (k d left : Nat) (li : Int) (w : World), li = (left : Int) → ds.length = k → rem + k = n → partsIn ds = true → left ≤ 12 → hi ≤ w.heap.size → Headed D k d → (∀ a, D = some a → a.block < lo ∨ hi ≤ a.block) →
      Row Clay.enc 5 w A zs → Row encI 1 w D ds → Inv L w → L.length + (goodL (bgood zs l h m s) rem ds left).length ≤ Bd →
      Calls Try.prog 40 #[.slice A n c, .slice D k d, .int .i64 li, .agg #[.int .i64 l, .int .i64 h, .int .i64 m, .int .i64 s], .func (.func F) #[] #[x1]] w fun e w' =>
        e = .returned (.tuple #[]) ∧ Inv (L ++ goodL (bgood zs l h m s) rem ds left) w' ∧ Touch lo hi w w' := by
  intro rem
  induction rem with
  | zero =>
    intro L ds D k d left li w hli hdk hk hp hleft hhi hD hDb ha hd hI hlen
    obtain rfl : k = n := by omega
    have HB := hide ((Below.refl w.heap.size w).alloc (Nat.le_refl _) (.cells #[.int .i64 l, .int .i64 h, .int .i64 m, .int .i64 s] 26))
    have HY := hide hY
    have HL := hide hl
    have HDK := hide hdk
    have HA := hide ha
    have HR := hide hd
    have HI := hide hI
    have HX := hide hx
    have he := hY.enters
    have hli0 : left = 0 → li = 0 := fun q => by rw [hli, q]; rfl
    have hli1 : left ≠ 0 → li ≠ 0 := fun q => by omega
    clear hl hdk ha hd hI hx hY hA hDb hli
    have hkk : ¬ k < k := Nat.lt_irrefl _
    by_cases h0 : left = 0
    · subst h0
      obtain rfl := hli0 rfl
      clear hli0 hli1
      go_enter Try.func40, Try.ntmps40
      go_wp2_with fail
      refine (impl_fault _ _ _ _ _ zs ds l h m s _ hn HL.out HDK.out (HA.out.below HB.out) (HR.out.below HB.out) hz hp HX.out).mono ?_
      rintro e w1 ⟨rfl, hb1⟩
      have HB1 := hide (HB.out.trans (hb1.mono HB.out.size))
      clear hb1
      cases hg : bgood zs l h m s ds with
      | true =>
        have HG := hide (goodL_yes hg)
        have hgl : L.length < Bd := by
          rw [goodL_yes hg] at hlen
          simp at hlen
          omega
        unfold bgood at hg
        obtain ⟨K, hK⟩ : ∃ K, bfault zs ds l h m s = K := ⟨_, rfl⟩
        rw [hK] at hg ⊢
        clear hK hlen
        go_wp2_with (first
          | (refine (HY.out.call L ds D d _ (by have := HB1.out.size; omega) (HY.out.move L _ _ hhi HI.out HB1.out) hgl hp HDK.out hD (HA.out.below HB1.out) (HR.out.below HB1.out)).mono ?_
             rintro e w2 ⟨rfl, hi2, ht2⟩
             have HI2 := hide hi2
             have HT2 := hide ((Touch.of_below lo hi HB1.out).trans ht2)
             clear hi2 ht2))
        go_wp2
        go_end0
        exact ⟨rfl, by rw [HG.out]; exact HI2.out, HT2.out⟩
      | false =>
        have HG := hide (goodL_no (f := bgood zs l h m s) (ds := ds) (left := 0) (by rw [hg]; decide))
        unfold bgood at hg
        obtain ⟨K, hK⟩ : ∃ K, bfault zs ds l h m s = K := ⟨_, rfl⟩
        rw [hK] at hg ⊢
        clear hK hlen
        go_wp2
        go_end0
        exact ⟨rfl, by rw [HG.out, List.append_nil]; exact HY.out.move L _ _ hhi HI.out HB1.out, Touch.of_below lo hi HB1.out⟩
    · have HG := hide (goodL_no (f := bgood zs l h m s) (ds := ds) (left := left) (fun q => h0 q.1))
      have d0' : ¬ li = 0 := hli1 h0
      have d0 : (li == 0) = false := by simpa using d0'
      clear hlen hli0 hli1
      go_enter Try.func40, Try.ntmps40
      go_wp2
      go_end0
      exact ⟨rfl, by rw [HG.out, List.append_nil]; exact HY.out.move L _ _ hhi HI.out HB.out, Touch.of_below lo hi HB.out⟩
  | succ rem ih =>
    intro L ds D k d left li w hli hdk hk hp hleft hhi hD hDb ha hd hI hlen
    subst hli
    obtain ⟨w1, hw1⟩ : ∃ u, w.alloc (.cells #[.int .i64 l, .int .i64 h, .int .i64 m, .int .i64 s] 26) = u := ⟨_, rfl⟩
    have hb1 : Below w.heap.size w w1 := by rw [← hw1]; exact (Below.refl _ _).alloc (Nat.le_refl _) _
    have hz1 : w1.heap.size = w.heap.size + 1 := by rw [← hw1]; simp
    have r0 : w1.cell? ⟨w.heap.size, 0, none⟩ = some (.int .i64 l) := by rw [← hw1]; simp [go_sem]
    have r1 : w1.cell? ⟨w.heap.size, 1, none⟩ = some (.int .i64 h) := by rw [← hw1]; simp [go_sem]
    have r2 : w1.cell? ⟨w.heap.size, 2, none⟩ = some (.int .i64 m) := by rw [← hw1]; simp [go_sem]
    have r3 : w1.cell? ⟨w.heap.size, 3, none⟩ = some (.int .i64 s) := by rw [← hw1]; simp [go_sem]
    have HT1 := hide (Touch.of_below lo hi hb1)
    have HI1 := hide (hY.move L _ _ hhi hI hb1)
    have HA := hide (ha.below hb1)
    have HR := hide (hd.below hb1)
    have HLEN := hide hlen
    have HDK := hide hdk
    have HY := hide hY
    have HIH := hide ih
    have HAb := hide hA
    have HDb := hide hDb
    have HP := hide hp
    have HC := hide (⟨r0, r1, r2, r3⟩ : _ ∧ _ ∧ _ ∧ _)
    obtain ⟨i0, hi0, hq0, hq1, hq2⟩ := info_parts info_int64
    have HQI := hide hi0
    have HZ0 := hide hq0
    have HZ1 := hide hq1
    have HZ2 := hide hq2
    have HW1 := hide hw1
    have hkn : k < n := by omega
    have hkn' : (k : Int) < (n : Int) := by omega
    clear ha hd hI hlen hdk hY ih hA hDb hp hb1 r0 r1 r2 r3 hw1 hl hi0 hq0 hq1 hq2
    go_enter Try.func40, Try.ntmps40
    go_wp2
    rw [HW1.out]
    go_loopw [10] (fun i wr => ∃ j : Nat, j ≤ left + 1 ∧ i = .int .i64 j ∧ Hid (Inv (L ++ goodTo (bgood zs l h m s) rem ds left j) wr) ∧ Hid (Touch lo hi w1 wr)) (fun i _ => left + 1 - (intOf i).toNat)
    case atStart => exact ⟨0, by omega, rfl, hide (by rw [goodTo_zero, List.append_nil]; exact HI1.out), hide (Touch.refl _ _ _)⟩
    case round =>
      obtain ⟨j, hj, rfl, HIr, HTr⟩ := hrel
      have hzr : w.heap.size < wr.heap.size := by have := HTr.out.size; omega
      by_cases hlt : j ≤ left
      · have hji : (j : Int) ≤ (left : Int) := by omega
        have v1 := Go.IntWalk.i64_in ((left : Int) - (j : Int)) ⟨by omega, by omega⟩
        obtain ⟨c0, c1, c2, c3⟩ := HC.out
        have s0 := (HTr.out.cell2 (b := w.heap.size) (i := 0) (.inr hhi) (by omega)).trans c0
        have s1 := (HTr.out.cell2 (b := w.heap.size) (i := 1) (.inr hhi) (by omega)).trans c1
        have s2 := (HTr.out.cell2 (b := w.heap.size) (i := 2) (.inr hhi) (by omega)).trans c2
        have s3 := (HTr.out.cell2 (b := w.heap.size) (i := 3) (.inr hhi) (by omega)).trans c3
        clear c0 c1 c2 c3
        have HAr := hide (HA.out.touch HTr.out HAb.out)
        have HRr := hide (HR.out.touch HTr.out HDb.out)
        have HB3 := hide (Below.refl wr.heap.size wr)
        have HBd := hide (show (L ++ goodTo (bgood zs l h m s) rem ds left j).length + (goodL (bgood zs l h m s) rem (ds ++ [(j : Int)]) (left - j)).length ≤ Bd from by
          have h1 := HLEN.out
          rw [goodL_succ] at h1
          have h2 := goodTo_le (bgood zs l h m s) rem ds left (show j + 1 ≤ left + 1 by omega)
          rw [goodTo_succ, List.length_append] at h2
          rw [List.length_append]
          omega)
        go_wp2
        go_region_held3 (fun w' => w'.cell? ⟨w.heap.size, 0, none⟩ = some (.int .i64 l) ∧ w'.cell? ⟨w.heap.size, 1, none⟩ = some (.int .i64 h) ∧ w'.cell? ⟨w.heap.size, 2, none⟩ = some (.int .i64 m) ∧ w'.cell? ⟨w.heap.size, 3, none⟩ = some (.int .i64 s))
          (first
            | go_keep
            | exact ⟨s0, s1, s2, s3⟩
            | exact ⟨t0, t1, t2, t3⟩
            | exact ⟨p0, p1, p2, p3⟩)
          (first
            | (go_at_call 44
               refine (cloneInt D k d ds _ (by omega) HDK.out hD (HRr.out.below (by first | exact HB3.out.drew | exact HB3.out.drew.alloc HB3.out.size _))).mono ?_
               rintro e w4 ⟨D', cap, rfl, hown, hD', hb4⟩
               have s0 := (hb4.cell (p := ⟨w.heap.size, 0, none⟩) (by first | exact hzr | (simp; omega))).trans (by first | exact s0 | exact (World.cell?_alloc_lt _ _ ⟨w.heap.size, 0, none⟩ hzr).trans s0)
               have s1 := (hb4.cell (p := ⟨w.heap.size, 1, none⟩) (by first | exact hzr | (simp; omega))).trans (by first | exact s1 | exact (World.cell?_alloc_lt _ _ ⟨w.heap.size, 1, none⟩ hzr).trans s1)
               have s2 := (hb4.cell (p := ⟨w.heap.size, 2, none⟩) (by first | exact hzr | (simp; omega))).trans (by first | exact s2 | exact (World.cell?_alloc_lt _ _ ⟨w.heap.size, 2, none⟩ hzr).trans s2)
               have s3 := (hb4.cell (p := ⟨w.heap.size, 3, none⟩) (by first | exact hzr | (simp; omega))).trans (by first | exact s3 | exact (World.cell?_alloc_lt _ _ ⟨w.heap.size, 3, none⟩ hzr).trans s3)
               have hs4 : wr.heap.size ≤ w4.heap.size := by
                 have := hb4.size
                 first
                   | exact this
                   | (simp at this; omega)
               have HB4 := hide (show Below wr.heap.size wr w4 from by
                 first
                   | exact HB3.out.drew.trans (hb4.mono HB3.out.size)
                   | exact (HB3.out.drew.alloc HB3.out.size _).trans (hb4.mono (by simp)))
               have HO4 := hide (own_weak2 (base' := wr.heap.size) hown (by first | exact Nat.le_refl _ | (simp; omega) | simp))
               first
                 | (have hN : ∀ (j' : Nat) (u : Value), [Value.int .i64 (j : Int)][j']? = some u → w4.cell? ((⟨wr.heap.size, 0, none⟩ : Addr).add j') = some u := news_kept (w := wr.drew) hb4 (by simp))
                 | skip
               clear hb4 hown)
            | (refine step_append_lies _ (by rfl) _ _ _ (by rfl) wr.heap.size 2 i0 _ 1 8 Try.underlying29 HQI.out HZ0.out HZ1.out HZ2.out rfl (by omega) (.slice D' k cap) k (flat encI ds) (by rfl) (HO4.out.alloc _) ⟨w4.heap.size, 0, none⟩ 1 1 [Value.int .i64 (j : Int)] (by rfl) (by rfl) (cell_new_at w4 _ _ _ rfl) int_one (by omega) (by unfold maxLen; omega) (by omega) (by simp; omega) (w4.heap.size + 1) (by simp) ?_
               intro g2 cap2 w5 hown5 hgrow hat hlt
               have HB5 := hide (show Below wr.heap.size wr w5 from (HB4.out.alloc HB4.out.size _).grown hgrow (by have := HB4.out.size; simp; omega) (fun j' hj' => (HO4.out.lt j' hj').1))
               have t0 := (HB5.out.cell (p := ⟨w.heap.size, 0, none⟩) hzr).trans ((HTr.out.cell2 (b := w.heap.size) (i := 0) (.inr hhi) (by omega)).trans HC.out.1)
               have t1 := (HB5.out.cell (p := ⟨w.heap.size, 1, none⟩) hzr).trans ((HTr.out.cell2 (b := w.heap.size) (i := 1) (.inr hhi) (by omega)).trans HC.out.2.1)
               have t2 := (HB5.out.cell (p := ⟨w.heap.size, 2, none⟩) hzr).trans ((HTr.out.cell2 (b := w.heap.size) (i := 2) (.inr hhi) (by omega)).trans HC.out.2.2.1)
               have t3 := (HB5.out.cell (p := ⟨w.heap.size, 3, none⟩) hzr).trans ((HTr.out.cell2 (b := w.heap.size) (i := 3) (.inr hhi) (by omega)).trans HC.out.2.2.2)
               have HO5 := hide hown5
               clear hown5 hgrow hat)
            | (refine step_append_lies _ (by rfl) _ _ _ (by rfl) wr.heap.size 2 i0 _ 1 8 Try.underlying29 HQI.out HZ0.out HZ1.out HZ2.out rfl (by omega) (.slice D' k cap) k (flat encI ds) (by rfl) HO4.out ⟨wr.heap.size, 0, none⟩ 1 1 [Value.int .i64 (j : Int)] (by rfl) (by rfl) hN int_one (by omega) (by unfold maxLen; omega) (by omega) (by omega) w4.heap.size rfl ?_
               intro g2 cap2 w5 hown5 hgrow hat hlt
               have HB5 := hide (show Below wr.heap.size wr w5 from HB4.out.grown hgrow HB4.out.size (fun j' hj' => (HO4.out.lt j' hj').1))
               have t0 := (HB5.out.cell (p := ⟨w.heap.size, 0, none⟩) hzr).trans ((HTr.out.cell2 (b := w.heap.size) (i := 0) (.inr hhi) (by omega)).trans HC.out.1)
               have t1 := (HB5.out.cell (p := ⟨w.heap.size, 1, none⟩) hzr).trans ((HTr.out.cell2 (b := w.heap.size) (i := 1) (.inr hhi) (by omega)).trans HC.out.2.1)
               have t2 := (HB5.out.cell (p := ⟨w.heap.size, 2, none⟩) hzr).trans ((HTr.out.cell2 (b := w.heap.size) (i := 2) (.inr hhi) (by omega)).trans HC.out.2.2.1)
               have t3 := (HB5.out.cell (p := ⟨w.heap.size, 3, none⟩) hzr).trans ((HTr.out.cell2 (b := w.heap.size) (i := 3) (.inr hhi) (by omega)).trans HC.out.2.2.2)
               have HO5 := hide hown5
               clear hown5 hgrow hat)
            | (go_at_call 40
               have HR5 := hide (show Row encI 1 w5 (some ⟨g2, 0, none⟩) (ds ++ [(j : Int)]) from Row.of_own (n := k + 1) (fun _ => rfl) (by rw [List.length_append, HDK.out]; rfl) (by have := HO5.out; rwa [flatI_push] at this))
               have hg5 := (own_lt HO5.out).1
               have hs5 := HB5.out.size
               refine (HIH.out (L ++ goodTo (bgood zs l h m s) rem ds left j) (ds ++ [(j : Int)]) (some ⟨g2, 0, none⟩) (k + 1) cap2 (left - j) _ w5 (by omega) (by rw [List.length_append, HDK.out]; rfl) (by omega) (parts_push HP.out (by omega)) (by omega) (by omega) (.inr ⟨g2, rfl⟩) (fun a ha => by obtain rfl := Option.some.inj ha; exact .inr (by show hi ≤ g2; omega)) (HAr.out.below HB5.out) HR5.out (HY.out.move _ _ _ (by omega) HIr.out HB5.out) HBd.out).mono ?_
               rintro e w6 ⟨rfl, hi6, ht6⟩
               have HI6 := hide (show Inv (L ++ goodTo (bgood zs l h m s) rem ds left (j + 1)) w6 from by rw [goodTo_succ, ← List.append_assoc]; exact hi6)
               have HT6 := hide ((HTr.out.and_below HB5.out).trans ht6)
               have p0 := (ht6.cell2 (b := w.heap.size) (i := 0) (.inr hhi) (by omega)).trans t0
               have p1 := (ht6.cell2 (b := w.heap.size) (i := 1) (.inr hhi) (by omega)).trans t1
               have p2 := (ht6.cell2 (b := w.heap.size) (i := 2) (.inr hhi) (by omega)).trans t2
               have p3 := (ht6.cell2 (b := w.heap.size) (i := 3) (.inr hhi) (by omega)).trans t3
               clear hi6 ht6))
        all_goals
          go_wp2
          go_roundw
          case rel => exact ⟨j + 1, by omega, by go_num, HI6, HT6⟩
          case measure => simp [intOf]; omega
      · obtain rfl : j = left + 1 := by omega
        have hji : ¬ (((left + 1 : Nat) : Int) ≤ (left : Int)) := by omega
        go_wp2
        go_end0
        exact ⟨rfl, by rw [goodL_succ]; exact HIr.out, HT1.out.trans HTr.out⟩
structure Yields3 (F : Nat) (x1 x2 x3 : Value) (lo hi n : Nat) (A : Option Addr) (zs : List Clay) (Inv : List (List Int) → World → Prop) (Bd : Nat) : Prop where
  enters : ∀ (args : Array Value) (W : World), (callFunc F args).run Try.prog W = .ok (.enter F args) W
  move : ∀ L W W', hi ≤ W.heap.size → Inv L W → Below W.heap.size W W' → Inv L W'
  call : ∀ L ds D d W, hi ≤ W.heap.size → Inv L W → L.length < Bd → partsIn ds = true → ds.length = n → Headed D n d → Row Clay.enc 5 W A zs → Row encI 1 W D ds →
    Calls Try.prog F #[.slice D n d, x1, x2, x3] W fun e W' => e = .returned (.tuple #[]) ∧ Inv (L ++ [ds]) W' ∧ Touch lo hi W W'
set_option maxRecDepth 100000 in
set_option maxHeartbeats 4000000 in
theorem impl_blends3 (F : Nat) (x1 x2 x3 : Value) (lo hi n c : Nat) (A : Option Addr) (zs : List Clay) (l h m s : Int) (Inv : List (List Int) → World → Prop) (Bd : Nat)
    (hY : Yields3 F x1 x2 x3 lo hi n A zs Inv Bd) (hn : n ≤ 6) (hl : zs.length = n) (hz : claysOk zs = true) (hx : LimOk l h m s) (hA : ∀ a, A = some a → a.block < lo ∨ hi ≤ a.block) :
    ∀ (rem : Nat) (L : List (List Int)) (ds : List Int) (D : Option Addr) (k d left : Nat) (li : Int) (w : World), li = (left : Int) → ds.length = k → rem + k = n → partsIn ds = true → left ≤ 12 → hi ≤ w.heap.size → Headed D k d → (∀ a, D = some a → a.block < lo ∨ hi ≤ a.block) →
      Row Clay.enc 5 w A zs → Row encI 1 w D ds → Inv L w → L.length + (goodL (bgood zs l h m s) rem ds left).length ≤ Bd →
      Calls Try.prog 40 #[.slice A n c, .slice D k d, .int .i64 li, .agg #[.int .i64 l, .int .i64 h, .int .i64 m, .int .i64 s], .func (.func F) #[] #[x1, x2, x3]] w fun e w' =>
        e = .returned (.tuple #[]) ∧ Inv (L ++ goodL (bgood zs l h m s) rem ds left) w' ∧ Touch lo hi w w' := by
  intro rem
  induction rem with
  | zero =>
    intro L ds D k d left li w hli hdk hk hp hleft hhi hD hDb ha hd hI hlen
    obtain rfl : k = n := by omega
    have HB := hide ((Below.refl w.heap.size w).alloc (Nat.le_refl _) (.cells #[.int .i64 l, .int .i64 h, .int .i64 m, .int .i64 s] 26))
    have HY := hide hY
    have HL := hide hl
    have HDK := hide hdk
    have HA := hide ha
    have HR := hide hd
    have HI := hide hI
    have HX := hide hx
    have he := hY.enters
    have hli0 : left = 0 → li = 0 := fun q => by rw [hli, q]; rfl
    have hli1 : left ≠ 0 → li ≠ 0 := fun q => by omega
    clear hl hdk ha hd hI hx hY hA hDb hli
    have hkk : ¬ k < k := Nat.lt_irrefl _
    by_cases h0 : left = 0
    · subst h0
      obtain rfl := hli0 rfl
      clear hli0 hli1
      go_enter Try.func40, Try.ntmps40
      go_wp2_with fail
      refine (impl_fault _ _ _ _ _ zs ds l h m s _ hn HL.out HDK.out (HA.out.below HB.out) (HR.out.below HB.out) hz hp HX.out).mono ?_
      rintro e w1 ⟨rfl, hb1⟩
      have HB1 := hide (HB.out.trans (hb1.mono HB.out.size))
      clear hb1
      cases hg : bgood zs l h m s ds with
      | true =>
        have HG := hide (goodL_yes hg)
        have hgl : L.length < Bd := by
          rw [goodL_yes hg] at hlen
          simp at hlen
          omega
        unfold bgood at hg
        obtain ⟨K, hK⟩ : ∃ K, bfault zs ds l h m s = K := ⟨_, rfl⟩
        rw [hK] at hg ⊢
        clear hK hlen
        go_wp2_with (first
          | (refine (HY.out.call L ds D d _ (by have := HB1.out.size; omega) (HY.out.move L _ _ hhi HI.out HB1.out) hgl hp HDK.out hD (HA.out.below HB1.out) (HR.out.below HB1.out)).mono ?_
             rintro e w2 ⟨rfl, hi2, ht2⟩
             have HI2 := hide hi2
             have HT2 := hide ((Touch.of_below lo hi HB1.out).trans ht2)
             clear hi2 ht2))
        go_wp2
        go_end0
        exact ⟨rfl, by rw [HG.out]; exact HI2.out, HT2.out⟩
      | false =>
        have HG := hide (goodL_no (f := bgood zs l h m s) (ds := ds) (left := 0) (by rw [hg]; decide))
        unfold bgood at hg
        obtain ⟨K, hK⟩ : ∃ K, bfault zs ds l h m s = K := ⟨_, rfl⟩
        rw [hK] at hg ⊢
        clear hK hlen
        go_wp2
        go_end0
        exact ⟨rfl, by rw [HG.out, List.append_nil]; exact HY.out.move L _ _ hhi HI.out HB1.out, Touch.of_below lo hi HB1.out⟩
    · have HG := hide (goodL_no (f := bgood zs l h m s) (ds := ds) (left := left) (fun q => h0 q.1))
      have d0' : ¬ li = 0 := hli1 h0
      have d0 : (li == 0) = false := by simpa using d0'
      clear hlen hli0 hli1
      go_enter Try.func40, Try.ntmps40
      go_wp2
      go_end0
      exact ⟨rfl, by rw [HG.out, List.append_nil]; exact HY.out.move L _ _ hhi HI.out HB.out, Touch.of_below lo hi HB.out⟩
  | succ rem ih =>
    intro L ds D k d left li w hli hdk hk hp hleft hhi hD hDb ha hd hI hlen
    subst hli
    obtain ⟨w1, hw1⟩ : ∃ u, w.alloc (.cells #[.int .i64 l, .int .i64 h, .int .i64 m, .int .i64 s] 26) = u := ⟨_, rfl⟩
    have hb1 : Below w.heap.size w w1 := by rw [← hw1]; exact (Below.refl _ _).alloc (Nat.le_refl _) _
    have hz1 : w1.heap.size = w.heap.size + 1 := by rw [← hw1]; simp
    have r0 : w1.cell? ⟨w.heap.size, 0, none⟩ = some (.int .i64 l) := by rw [← hw1]; simp [go_sem]
    have r1 : w1.cell? ⟨w.heap.size, 1, none⟩ = some (.int .i64 h) := by rw [← hw1]; simp [go_sem]
    have r2 : w1.cell? ⟨w.heap.size, 2, none⟩ = some (.int .i64 m) := by rw [← hw1]; simp [go_sem]
    have r3 : w1.cell? ⟨w.heap.size, 3, none⟩ = some (.int .i64 s) := by rw [← hw1]; simp [go_sem]
    have HT1 := hide (Touch.of_below lo hi hb1)
    have HI1 := hide (hY.move L _ _ hhi hI hb1)
    have HA := hide (ha.below hb1)
    have HR := hide (hd.below hb1)
    have HLEN := hide hlen
    have HDK := hide hdk
    have HY := hide hY
    have HIH := hide ih
    have HAb := hide hA
    have HDb := hide hDb
    have HP := hide hp
    have HC := hide (⟨r0, r1, r2, r3⟩ : _ ∧ _ ∧ _ ∧ _)
    obtain ⟨i0, hi0, hq0, hq1, hq2⟩ := info_parts info_int64
    have HQI := hide hi0
    have HZ0 := hide hq0
    have HZ1 := hide hq1
    have HZ2 := hide hq2
    have HW1 := hide hw1
    have hkn : k < n := by omega
    have hkn' : (k : Int) < (n : Int) := by omega
    clear ha hd hI hlen hdk hY ih hA hDb hp hb1 r0 r1 r2 r3 hw1 hl hi0 hq0 hq1 hq2
    go_enter Try.func40, Try.ntmps40
    go_wp2
    rw [HW1.out]
    go_loopw [10] (fun i wr => ∃ j : Nat, j ≤ left + 1 ∧ i = .int .i64 j ∧ Hid (Inv (L ++ goodTo (bgood zs l h m s) rem ds left j) wr) ∧ Hid (Touch lo hi w1 wr)) (fun i _ => left + 1 - (intOf i).toNat)
    case atStart => exact ⟨0, by omega, rfl, hide (by rw [goodTo_zero, List.append_nil]; exact HI1.out), hide (Touch.refl _ _ _)⟩
    case round =>
      obtain ⟨j, hj, rfl, HIr, HTr⟩ := hrel
      have hzr : w.heap.size < wr.heap.size := by have := HTr.out.size; omega
      by_cases hlt : j ≤ left
      · have hji : (j : Int) ≤ (left : Int) := by omega
        have v1 := Go.IntWalk.i64_in ((left : Int) - (j : Int)) ⟨by omega, by omega⟩
        obtain ⟨c0, c1, c2, c3⟩ := HC.out
        have s0 := (HTr.out.cell2 (b := w.heap.size) (i := 0) (.inr hhi) (by omega)).trans c0
        have s1 := (HTr.out.cell2 (b := w.heap.size) (i := 1) (.inr hhi) (by omega)).trans c1
        have s2 := (HTr.out.cell2 (b := w.heap.size) (i := 2) (.inr hhi) (by omega)).trans c2
        have s3 := (HTr.out.cell2 (b := w.heap.size) (i := 3) (.inr hhi) (by omega)).trans c3
        clear c0 c1 c2 c3
        have HAr := hide (HA.out.touch HTr.out HAb.out)
        have HRr := hide (HR.out.touch HTr.out HDb.out)
        have HB3 := hide (Below.refl wr.heap.size wr)
        have HBd := hide (show (L ++ goodTo (bgood zs l h m s) rem ds left j).length + (goodL (bgood zs l h m s) rem (ds ++ [(j : Int)]) (left - j)).length ≤ Bd from by
          have h1 := HLEN.out
          rw [goodL_succ] at h1
          have h2 := goodTo_le (bgood zs l h m s) rem ds left (show j + 1 ≤ left + 1 by omega)
          rw [goodTo_succ, List.length_append] at h2
          rw [List.length_append]
          omega)
        go_wp2
        go_region_held3 (fun w' => w'.cell? ⟨w.heap.size, 0, none⟩ = some (.int .i64 l) ∧ w'.cell? ⟨w.heap.size, 1, none⟩ = some (.int .i64 h) ∧ w'.cell? ⟨w.heap.size, 2, none⟩ = some (.int .i64 m) ∧ w'.cell? ⟨w.heap.size, 3, none⟩ = some (.int .i64 s))
          (first
            | go_keep
            | exact ⟨s0, s1, s2, s3⟩
            | exact ⟨t0, t1, t2, t3⟩
            | exact ⟨p0, p1, p2, p3⟩)
          (first
            | (go_at_call 44
               refine (cloneInt D k d ds _ (by omega) HDK.out hD (HRr.out.below (by first | exact HB3.out.drew | exact HB3.out.drew.alloc HB3.out.size _))).mono ?_
               rintro e w4 ⟨D', cap, rfl, hown, hD', hb4⟩
               have s0 := (hb4.cell (p := ⟨w.heap.size, 0, none⟩) (by first | exact hzr | (simp; omega))).trans (by first | exact s0 | exact (World.cell?_alloc_lt _ _ ⟨w.heap.size, 0, none⟩ hzr).trans s0)
               have s1 := (hb4.cell (p := ⟨w.heap.size, 1, none⟩) (by first | exact hzr | (simp; omega))).trans (by first | exact s1 | exact (World.cell?_alloc_lt _ _ ⟨w.heap.size, 1, none⟩ hzr).trans s1)
               have s2 := (hb4.cell (p := ⟨w.heap.size, 2, none⟩) (by first | exact hzr | (simp; omega))).trans (by first | exact s2 | exact (World.cell?_alloc_lt _ _ ⟨w.heap.size, 2, none⟩ hzr).trans s2)
               have s3 := (hb4.cell (p := ⟨w.heap.size, 3, none⟩) (by first | exact hzr | (simp; omega))).trans (by first | exact s3 | exact (World.cell?_alloc_lt _ _ ⟨w.heap.size, 3, none⟩ hzr).trans s3)
               have hs4 : wr.heap.size ≤ w4.heap.size := by
                 have := hb4.size
                 first
                   | exact this
                   | (simp at this; omega)
               have HB4 := hide (show Below wr.heap.size wr w4 from by
                 first
                   | exact HB3.out.drew.trans (hb4.mono HB3.out.size)
                   | exact (HB3.out.drew.alloc HB3.out.size _).trans (hb4.mono (by simp)))
               have HO4 := hide (own_weak2 (base' := wr.heap.size) hown (by first | exact Nat.le_refl _ | (simp; omega) | simp))
               first
                 | (have hN : ∀ (j' : Nat) (u : Value), [Value.int .i64 (j : Int)][j']? = some u → w4.cell? ((⟨wr.heap.size, 0, none⟩ : Addr).add j') = some u := news_kept (w := wr.drew) hb4 (by simp))
                 | skip
               clear hb4 hown)
            | (refine step_append_lies _ (by rfl) _ _ _ (by rfl) wr.heap.size 2 i0 _ 1 8 Try.underlying29 HQI.out HZ0.out HZ1.out HZ2.out rfl (by omega) (.slice D' k cap) k (flat encI ds) (by rfl) (HO4.out.alloc _) ⟨w4.heap.size, 0, none⟩ 1 1 [Value.int .i64 (j : Int)] (by rfl) (by rfl) (cell_new_at w4 _ _ _ rfl) int_one (by omega) (by unfold maxLen; omega) (by omega) (by simp; omega) (w4.heap.size + 1) (by simp) ?_
               intro g2 cap2 w5 hown5 hgrow hat hlt
               have HB5 := hide (show Below wr.heap.size wr w5 from (HB4.out.alloc HB4.out.size _).grown hgrow (by have := HB4.out.size; simp; omega) (fun j' hj' => (HO4.out.lt j' hj').1))
               have t0 := (HB5.out.cell (p := ⟨w.heap.size, 0, none⟩) hzr).trans ((HTr.out.cell2 (b := w.heap.size) (i := 0) (.inr hhi) (by omega)).trans HC.out.1)
               have t1 := (HB5.out.cell (p := ⟨w.heap.size, 1, none⟩) hzr).trans ((HTr.out.cell2 (b := w.heap.size) (i := 1) (.inr hhi) (by omega)).trans HC.out.2.1)
               have t2 := (HB5.out.cell (p := ⟨w.heap.size, 2, none⟩) hzr).trans ((HTr.out.cell2 (b := w.heap.size) (i := 2) (.inr hhi) (by omega)).trans HC.out.2.2.1)
               have t3 := (HB5.out.cell (p := ⟨w.heap.size, 3, none⟩) hzr).trans ((HTr.out.cell2 (b := w.heap.size) (i := 3) (.inr hhi) (by omega)).trans HC.out.2.2.2)
               have HO5 := hide hown5
               clear hown5 hgrow hat)
            | (refine step_append_lies _ (by rfl) _ _ _ (by rfl) wr.heap.size 2 i0 _ 1 8 Try.underlying29 HQI.out HZ0.out HZ1.out HZ2.out rfl (by omega) (.slice D' k cap) k (flat encI ds) (by rfl) HO4.out ⟨wr.heap.size, 0, none⟩ 1 1 [Value.int .i64 (j : Int)] (by rfl) (by rfl) hN int_one (by omega) (by unfold maxLen; omega) (by omega) (by omega) w4.heap.size rfl ?_
               intro g2 cap2 w5 hown5 hgrow hat hlt
               have HB5 := hide (show Below wr.heap.size wr w5 from HB4.out.grown hgrow HB4.out.size (fun j' hj' => (HO4.out.lt j' hj').1))
               have t0 := (HB5.out.cell (p := ⟨w.heap.size, 0, none⟩) hzr).trans ((HTr.out.cell2 (b := w.heap.size) (i := 0) (.inr hhi) (by omega)).trans HC.out.1)
               have t1 := (HB5.out.cell (p := ⟨w.heap.size, 1, none⟩) hzr).trans ((HTr.out.cell2 (b := w.heap.size) (i := 1) (.inr hhi) (by omega)).trans HC.out.2.1)
               have t2 := (HB5.out.cell (p := ⟨w.heap.size, 2, none⟩) hzr).trans ((HTr.out.cell2 (b := w.heap.size) (i := 2) (.inr hhi) (by omega)).trans HC.out.2.2.1)
               have t3 := (HB5.out.cell (p := ⟨w.heap.size, 3, none⟩) hzr).trans ((HTr.out.cell2 (b := w.heap.size) (i := 3) (.inr hhi) (by omega)).trans HC.out.2.2.2)
               have HO5 := hide hown5
               clear hown5 hgrow hat)
            | (go_at_call 40
               have HR5 := hide (show Row encI 1 w5 (some ⟨g2, 0, none⟩) (ds ++ [(j : Int)]) from Row.of_own (n := k + 1) (fun _ => rfl) (by rw [List.length_append, HDK.out]; rfl) (by have := HO5.out; rwa [flatI_push] at this))
               have hg5 := (own_lt HO5.out).1
               have hs5 := HB5.out.size
               refine (HIH.out (L ++ goodTo (bgood zs l h m s) rem ds left j) (ds ++ [(j : Int)]) (some ⟨g2, 0, none⟩) (k + 1) cap2 (left - j) _ w5 (by omega) (by rw [List.length_append, HDK.out]; rfl) (by omega) (parts_push HP.out (by omega)) (by omega) (by omega) (.inr ⟨g2, rfl⟩) (fun a ha => by obtain rfl := Option.some.inj ha; exact .inr (by show hi ≤ g2; omega)) (HAr.out.below HB5.out) HR5.out (HY.out.move _ _ _ (by omega) HIr.out HB5.out) HBd.out).mono ?_
               rintro e w6 ⟨rfl, hi6, ht6⟩
               have HI6 := hide (show Inv (L ++ goodTo (bgood zs l h m s) rem ds left (j + 1)) w6 from by rw [goodTo_succ, ← List.append_assoc]; exact hi6)
               have HT6 := hide ((HTr.out.and_below HB5.out).trans ht6)
               have p0 := (ht6.cell2 (b := w.heap.size) (i := 0) (.inr hhi) (by omega)).trans t0
               have p1 := (ht6.cell2 (b := w.heap.size) (i := 1) (.inr hhi) (by omega)).trans t1
               have p2 := (ht6.cell2 (b := w.heap.size) (i := 2) (.inr hhi) (by omega)).trans t2
               have p3 := (ht6.cell2 (b := w.heap.size) (i := 3) (.inr hhi) (by omega)).trans t3
               clear hi6 ht6))
        all_goals
          go_wp2
          go_roundw
          case rel => exact ⟨j + 1, by omega, by go_num, HI6, HT6⟩
          case measure => simp [intOf]; omega
      · obtain rfl : j = left + 1 := by omega
        have hji : ¬ (((left + 1 : Nat) : Int) ≤ (left : Int)) := by omega
        go_wp2
        go_end0
        exact ⟨rfl, by rw [goodL_succ]; exact HIr.out, HT1.out.trans HTr.out⟩
end Go.Proofs.Ytgobpleckeeheaa
