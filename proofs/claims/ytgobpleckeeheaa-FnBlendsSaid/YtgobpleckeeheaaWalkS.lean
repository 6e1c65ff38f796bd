/-
  What is proved: the walk of the reference over all blends hands them in order, with their count and the cheapest one. Conditions: valid clays and limits, at most 12 parts.
-/
import Derived.Test.YtgobpleckeeheaaBlendsN
import Derived.WalkSpells
namespace Go.Proofs.Ytgobpleckeeheaa
open Go.RowKit
set_option linter.unusedVariables false

theorem own_keep {w w' : World} {base size n c : Nat} {E : Option Addr} {t : TypeId} {xs : List Value} (h : w.ownsRow base t size (.slice E n c) n xs) (hk : ∀ a, E = some a → w'.heap[a.block]? = w.heap[a.block]?) : w'.ownsRow base t size (.slice E n c) n xs := by
  refine ⟨h.1, ?_⟩
  rcases h.2 with hv | ⟨g, cap, cur, hv, hb, hg, rest⟩
  · exact .inl hv
  · have hA : E = some ⟨g, 0, none⟩ := by injection hv
    exact .inr ⟨g, cap, cur, hv, hb, (hk _ hA).trans hg, rest⟩
theorem own_cut {w : World} {base n c g : Nat} {t : TypeId} {ds : List Int} {x : Int} (h : w.ownsRow base t 1 (.slice (some ⟨g, 0, none⟩) (n + 1) c) (n + 1) (flat encI (ds ++ [x]))) (hn : ds.length = n) : w.ownsRow base t 1 (.slice (some ⟨g, 0, none⟩) n c) n (flat encI ds) := by
  rcases h.2 with ⟨_, h0⟩ | ⟨g', cap, cur, hv, hb, hg, hnc, hcm, hsz, htk⟩
  · omega
  · injection hv with hA _ hc
    obtain rfl : g = g' := by injection hA with hA; injection hA
    subst hc
    refine ⟨by rw [flatI_map]; simp [hn], .inr ⟨g, c, cur, rfl, hb, hg, by omega, hcm, hsz, ?_⟩⟩
    have e : (cur.toList.take ((n + 1) * 1)).take (n * 1) = cur.toList.take (n * 1) := by rw [List.take_take]; congr 1; omega
    rw [← e, htk, flatI_map, flatI_map, List.map_append, List.take_append_of_le_length (by simp [hn]), List.take_of_length_le (by simp [hn])]
theorem own_block {w : World} {base size n c : Nat} {E : Option Addr} {t : TypeId} {xs : List Value} (h : w.ownsRow base t size (.slice E n c) n xs) : ∀ a, E = some a → a = ⟨a.block, 0, none⟩ ∧ base ≤ a.block ∧ a.block < w.heap.size := by
  intro a ha
  rcases h.2 with ⟨hv, _⟩ | ⟨g, cap, cur, hv, hb, hg, rest⟩
  · injection hv with h1
    rw [h1] at ha
    cases ha
  · injection hv with h1
    rw [h1] at ha
    obtain rfl := Option.some.inj ha
    exact ⟨rfl, hb, (Array.getElem?_eq_some_iff.1 hg).1⟩
/-- The price of a blend. -/
def priceL (zs : List Clay) (ds : List Int) : Int := totK (valOf 3) zs ds ds.length
theorem price_in {zs : List Clay} {ds : List Int} {n : Nat} (hz : claysOk zs = true) (hp : partsIn ds = true) (hl : ds.length = n) (hn : n ≤ 6) : 0 ≤ priceL zs ds ∧ priceL zs ds ≤ 60000000 := by
  have := totK_in (small_valOf 3) hz hp ds.length
  unfold priceL
  omega
/-- The search under way. -/
def SInv (W : World) (lo b g : Nat) (A : Option Addr) (n c : Nat) (zs : List Clay) (L : List (List Int)) (ds : List Int) (k : Nat) : Prop :=
  ∃ (gp cp : Nat) (E : Option Addr) (ce : Nat),
    Blk W b 80 #[.slice A n c, .pointer (some ⟨g, 0, none⟩), .slice (some ⟨gp, 0, none⟩) k cp, .slice E (cheap (priceL zs) L).1.length ce, .int .i64 (cheap (priceL zs) L).2, .int .i64 ((L.length : Nat) : Int)] ∧
    W.ownsRow lo 2 1 (.slice (some ⟨gp, 0, none⟩) k cp) k (flat encI ds) ∧
    W.ownsRow lo 2 1 (.slice E (cheap (priceL zs) L).1.length ce) (cheap (priceL zs) L).1.length (flat encI (cheap (priceL zs) L).1) ∧
    gp ≠ b ∧ (∀ a, E = some a → a.block ≠ b ∧ a.block ≠ gp) ∧ (∀ d ∈ L, partsIn d = true ∧ d.length = n)
/-- The cells of the limits. -/
def LimC (W : World) (g : Nat) (l h m s : Int) : Prop := W.cell? ⟨g, 0, none⟩ = some (.int .i64 l) ∧ W.cell? ⟨g, 1, none⟩ = some (.int .i64 h) ∧ W.cell? ⟨g, 2, none⟩ = some (.int .i64 m) ∧ W.cell? ⟨g, 3, none⟩ = some (.int .i64 s)
theorem LimC.below {W W' : World} {g B : Nat} {l h m s : Int} (hc : LimC W g l h m s) (hb : Below B W W') (hg : g < B) : LimC W' g l h m s :=
  ⟨(hb.cell (p := ⟨g, 0, none⟩) hg).trans hc.1, (hb.cell (p := ⟨g, 1, none⟩) hg).trans hc.2.1, (hb.cell (p := ⟨g, 2, none⟩) hg).trans hc.2.2.1, (hb.cell (p := ⟨g, 3, none⟩) hg).trans hc.2.2.2⟩
theorem Row.below_lo {α : Type} {enc : α → List Value} {k B : Nat} {w w' : World} {A : Option Addr} {xs : List α} (h : Row enc k w A xs) (hb : Below B w w') (hd : ∀ a, A = some a → a.block < B) : Row enc k w' A xs := fun hn => by
  obtain ⟨b, off, e, hlt, hc⟩ := h hn
  have hbB := hd _ e
  exact ⟨b, off, e, Nat.lt_of_lt_of_le hlt hb.size, fun i x hi j v hv => (hb.cell (p := ⟨b, off + (i * k + j), none⟩) hbB).trans (hc i x hi j v hv)⟩
theorem SInv.below {W W' : World} {lo b g n c k : Nat} {A : Option Addr} {zs : List Clay} {L : List (List Int)} {ds : List Int} (h : SInv W lo b g A n c zs L ds k) (hb : Below W.heap.size W W') : SInv W' lo b g A n c zs L ds k := by
  obtain ⟨gp, cp, E, ce, h1, h2, h3, h4, h5, h6⟩ := h
  exact ⟨gp, cp, E, ce, h1.below hb h1.lt, own_below h2 hb, own_below h3 hb, h4, h5, h6⟩
theorem cheap_len {zs : List Clay} {L : List (List Int)} {n : Nat} (hz : claysOk zs = true) (hn : n ≤ 6) (h : ∀ d ∈ L, partsIn d = true ∧ d.length = n) : -1 ≤ (cheap (priceL zs) L).2 ∧ (cheap (priceL zs) L).2 ≤ 60000000 :=
  cheap_bd (by omega) (fun d hd => price_in hz (h d hd).1 (h d hd).2 hn)
set_option maxHeartbeats 1000000 in
theorem spec_l00Own (b n c : Nat) (zs : List Int) (w : World) (hn : n ≤ 16777216) (hl : zs.length = n) (h : Row encI 1 w (some ⟨b, 0, none⟩) zs) :
    Calls Try.prog 116 #[.slice (some ⟨b, 0, none⟩) n c] w fun e w' => ∃ g c', e = .returned (.slice (some ⟨g, 0, none⟩) n c') ∧ w'.ownsRow w.heap.size 2 1 (.slice (some ⟨g, 0, none⟩) n c') n (flat encI zs) ∧ Below w.heap.size w w' := by
  obtain ⟨i0, hi, hz0, hz1, hz2⟩ := info_parts info_int64
  have HA := hide h
  have HI := hide hi
  have HZ0 := hide hz0
  have HZ1 := hide hz1
  have HZ2 := hide hz2
  have hnm : n ≤ 9223372036854775807 := by omega
  clear h hi hz0 hz1 hz2
  go_enter Try.func116, Try.ntmps116
  have HO := hide (own_empty w w.heap.size 1 2 (Nat.le_refl _))
  have HB := hide ((Below.refl w.heap.size w).alloc (Nat.le_refl _) (.cells #[] 2))
  have hrn := row_news (k := 1) (fun _ => rfl) (by omega) (HA.out.below HB.out)
  have HR := hide hrn
  clear hrn
  have hfl := flat_length (enc := encI) (k := 1) (fun _ => rfl) zs
  rw [hl] at hfl
  have HF := hide hfl
  clear hfl hl
  go_wp2_with (first
    | (at_builtin
       refine wpList_append_own _ rfl _ _ 29 rfl w.heap.size 2 i0 _ 1 8 Try.underlying29 HI.out HZ0.out HZ1.out HZ2.out rfl (by decide) _ _ _ rfl HO.out ⟨b, 0, none⟩ n c (flat encI zs) rfl HF.out HR.out ints_one (by unfold maxLen; omega) (by omega) (by simp <;> omega) ?_
       intro v' w1 hown' hgrow hnil
       rw [Nat.zero_add, List.nil_append] at hown'
       have HB2 := hide (Below.grown HB.out hgrow (by simp <;> omega) (fun j hj => (HO.out.lt j hj).1))
       clear hgrow
       rcases hown'.2 with ⟨hq, _⟩ | ⟨g, cap, cur, rfl, hgb, _, _⟩
       · cases (hnil.1 hq).1
       clear hnil
       have HO2 := hide hown'
       clear hown'))
  go_wp2
  go_ret
  exact ⟨g, cap, rfl, HO2.out, HB2.out⟩
/-- What the walk leaves. -/
def Walked (W : World) (lo b g : Nat) (A : Option Addr) (n c : Nat) (zs : List Clay) (L : List (List Int)) (ds : List Int) (k : Nat) (e : Ending) (W' : World) : Prop :=
  e = .returned (.tuple #[]) ∧ SInv W' lo b g A n c zs L ds k ∧ Below lo W W'
set_option maxRecDepth 100000 in
set_option maxHeartbeats 4000000 in
theorem spec_walk_no (lo b g : Nat) (A : Option Addr) (n c : Nat) (zs : List Clay) (L : List (List Int)) (ds : List Int) (li : Int) (w : World) (h0 : li ≠ 0) (hn : n ≤ 6) (hlo : lo ≤ b) (hlw : lo ≤ w.heap.size) (hS : SInv w lo b g A n c zs L ds n) :
    Calls Try.prog 94 #[.pointer (some ⟨b, 0, none⟩), .int .i64 li] w (Walked w lo b g A n c zs L ds n) := by
  have HS := hide hS
  obtain ⟨gp, cp, E, ce, hB, -⟩ := hS
  have c0 : w.cell? ⟨b, 0, none⟩ = some (.slice A n c) := hB.cell 0
  have c2 : w.cell? ⟨b, 2, none⟩ = some (.slice (some ⟨gp, 0, none⟩) n cp) := hB.cell 2
  have d0 : (li == 0) = false := by simpa using h0
  clear hB
  go_enter Try.func94, Try.ntmps94
  go_wp2
  go_quiet (fail)
  go_wp2
  refine bodyPost_ret (results_none rfl _ _ _) rfl ⟨rfl, HS.out, ?_⟩
  exact below_drewN (Below.refl _ _) _
set_option maxRecDepth 100000 in
set_option maxHeartbeats 4000000 in
theorem spec_walk_bad (lo b g : Nat) (A : Option Addr) (n c : Nat) (zs : List Clay) (L : List (List Int)) (ds : List Int) (l h m s : Int) (w : World) (hn : n ≤ 6) (hl : zs.length = n) (hl2 : ds.length = n) (hz : claysOk zs = true) (hx : LimOk l h m s) (hp : partsIn ds = true) (hlo : lo ≤ b) (hlw : lo ≤ w.heap.size) (hgl : g < lo) (hC : LimC w g l h m s) (ha : Row Clay.enc 5 w A zs)
    (hg : bgood zs l h m s ds = false) (hS : SInv w lo b g A n c zs L ds n) :
    Calls Try.prog 94 #[.pointer (some ⟨b, 0, none⟩), .int .i64 0] w (Walked w lo b g A n c zs L ds n) := by
  have HS := hide hS
  obtain ⟨gp, cp, E, ce, hB, hP, -⟩ := hS
  have c0 : w.cell? ⟨b, 0, none⟩ = some (.slice A n c) := hB.cell 0
  have c1 : w.cell? ⟨b, 1, none⟩ = some (.pointer (some ⟨g, 0, none⟩)) := hB.cell 1
  have c2 : w.cell? ⟨b, 2, none⟩ = some (.slice (some ⟨gp, 0, none⟩) n cp) := hB.cell 2
  have hbl := hB.lt
  have HR := hide (show Row encI 1 w (some ⟨gp, 0, none⟩) ds from Row.of_own (fun _ => rfl) hl2 hP)
  have HA := hide ha
  have HL := hide hl
  have HL2 := hide hl2
  have HC := hide hC
  have HB0 := hide (Below.refl w.heap.size w)
  unfold bgood at hg
  obtain ⟨K, hK⟩ : ∃ K, bfault zs ds l h m s = K := ⟨_, rfl⟩
  rw [hK] at hg
  have HK := hide hK
  clear hB hP ha hl hl2 hC hK
  go_enter Try.func94, Try.ntmps94
  go_wp2
  go_region_held3 (fun w' => w'.cell? ⟨b, 0, none⟩ = some (.slice A n c) ∧ w'.cell? ⟨b, 1, none⟩ = some (.pointer (some ⟨g, 0, none⟩)) ∧ w'.cell? ⟨b, 2, none⟩ = some (.slice (some ⟨gp, 0, none⟩) n cp))
    (first
      | go_keep
      | exact ⟨c0, c1, c2⟩)
    (first
      | (go_at_call 56
         refine (spec_fault A (some ⟨gp, 0, none⟩) n c cp zs ds l h m s g _ hn HL.out HL2.out (HA.out.below HB0.out.drew) (HR.out.below HB0.out.drew) hz hp hx (by show g < w.heap.size; omega) HC.out.1 HC.out.2.1 HC.out.2.2.1 HC.out.2.2.2).mono ?_
         rintro e w1 ⟨rfl, hb1⟩
         rw [HK.out]
         replace c0 := (hb1.cell (p := ⟨b, 0, none⟩) hbl).trans c0
         replace c1 := (hb1.cell (p := ⟨b, 1, none⟩) hbl).trans c1
         replace c2 := (hb1.cell (p := ⟨b, 2, none⟩) hbl).trans c2
         have HB1 := hide (HB0.out.drew.trans (hb1.mono HB0.out.size))
         clear hb1))
  go_wp2
  refine bodyPost_ret (results_none rfl _ _ _) rfl ⟨rfl, HS.out.below HB1.out, HB1.out.mono hlw⟩
end Go.Proofs.Ytgobpleckeeheaa
