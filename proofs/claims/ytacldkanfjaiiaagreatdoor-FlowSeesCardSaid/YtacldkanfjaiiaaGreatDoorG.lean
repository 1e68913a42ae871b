/- db.New; a session's label; a pick where nothing waits. -/
import Derived.Test.YtacldkanfjaiiaaGreatDoorN
namespace Go.Proofs.YtacldkanfjaiiaaGreatDoor
open Go.RowKit
set_option maxRecDepth 100000

/-- transactions as New makes them -/
structure MgrNew (w : World) (mb : Nat) : Prop where
  is : ∃ q sb lb ob kb, w.heap[mb]? = some (.cells #[.int .i64 q, .slice none 0 0, .slice none 0 0, .pointer (some ⟨sb, 0, none⟩), .pointer (some ⟨lb, 0, none⟩), .map (some ob), .map (some kb)] 100 (0, 0)) ∧
    w.heap[lb]? = some (.cells #[.map none] 126 (0, 0)) ∧ w.heap[ob]? = some (.map #[] 0)
theorem MgrNew.below {w w' : World} {mb : Nat} (h : MgrNew w mb) (hb : Below w.heap.size w w') : MgrNew w' mb := by
  obtain ⟨q, sb, lb, ob, kb, h1, h2, h3⟩ := h.is
  exact ⟨q, sb, lb, ob, kb, (hb.block _ (Array.getElem?_eq_some_iff.1 h1).1).trans h1, (hb.block _ (Array.getElem?_eq_some_iff.1 h2).1).trans h2, (hb.block _ (Array.getElem?_eq_some_iff.1 h3).1).trans h3⟩

theorem KernIs.below {w w' : World} {kb base : Nat} {l : List Ss} (h : KernIs w kb base l) (hb : Below w.heap.size w w') : KernIs w' kb base l := by
  obtain ⟨h0, ⟨v, m, h1, h2, h3, h4⟩, h5⟩ := h
  exact ⟨h0, ⟨v, m, (hb.block _ (Array.getElem?_eq_some_iff.1 h1).1).trans h1, h2, (hb.block _ (Array.getElem?_eq_some_iff.1 h3).1).trans h3, own_below h4 hb⟩, fun s hs => (h5 s hs).below hb⟩

/-- a store -/
structure DBIs (w : World) (d : Nat) (l : List Ss) : Prop where
  is : ∃ kb base mb ob, w.heap[d]? = some (.cells #[.pointer (some ⟨kb, 0, none⟩), .pointer (some ⟨mb, 0, none⟩), .map (some ob)] 68 (0, 0)) ∧ KernIs w kb base l ∧ MgrNew w mb ∧ w.heap[ob]? = some (.map #[] 0)
theorem DBIs.below {w w' : World} {d : Nat} {l : List Ss} (h : DBIs w d l) (hb : Below w.heap.size w w') : DBIs w' d l := by
  obtain ⟨kb, base, mb, ob, h1, h2, h3, h4⟩ := h.is
  exact ⟨kb, base, mb, ob, (hb.block _ (Array.getElem?_eq_some_iff.1 h1).1).trans h1, h2.below hb, h3.below hb, (hb.block _ (Array.getElem?_eq_some_iff.1 h4).1).trans h4⟩
theorem DBIs.lt {w : World} {d : Nat} {l : List Ss} (h : DBIs w d l) : d < w.heap.size := by
  obtain ⟨kb, base, mb, ob, h1, _⟩ := h.is
  exact (Array.getElem?_eq_some_iff.1 h1).1

set_option maxHeartbeats 1000000 in
theorem dbNew_any (A : Option Addr) (n c : Nat) (si : List Si) (q : Int) (w : World) (B : Nat) (hB : B ≤ w.heap.size) (h : Sl w B 2 A n (si.flatMap Si.cells)) (hs : ∀ s ∈ si, s.Ok w B)
    (h1 : 1 ≤ n) (h6 : n ≤ 6) (hq1 : 1 ≤ q) (hq2 : q ≤ 200) :
    Calls Tryz.prog 17 #[.agg #[.slice A n c, .int .i64 q]] w fun e w' => ∃ d l, e = .returned (.tuple #[.pointer (some ⟨d, 0, none⟩), .int .i64 0]) ∧ w.heap.size ≤ d ∧ DBIs w' d l ∧ Ss.news l si ∧ Below w.heap.size w w' := by
  have hmm := @run_makeMap Tryz.prog
  have HS := Lib.hid hs
  clear hs
  go_enter Tryz.func17, Tryz.ntmps17
  go_wp2_with fail
  refine (kernNew_any A n c si q _ B (by simp; omega) (h.alloc hB _) (fun s hs => ⟨(HS.out s hs).lab.alloc hB _, (HS.out s hs).own.alloc hB _, (HS.out s hs).may, (HS.out s hs).mayO⟩) h1 h6 hq1 hq2).mono ?_
  rintro e w1 ⟨kb, l, rfl, hkb, hK, hN, hb⟩
  have x1 : w1.cell? ⟨w.heap.size, 1, none⟩ = some (.int .i64 q) := new_cell hb 1
  have hb1 := (below_alloc w _).trans (hb.mono (by simp))
  have hz1 := hb.size
  have HN := Lib.hid hN
  clear hb hN
  go_wp2_with fail
  refine (txnNew_any q w1).mono ?_
  rintro e w2 ⟨rfl, hw2⟩
  have e2 : Below w1.heap.size w1 w2 := by
    rw [hw2]; exact (((((Below.refl _ _).alloc (Nat.le_refl _) _).alloc (by simp) _).alloc (by simp; omega) _).alloc (by simp; omega) _).alloc (by simp; omega) _
  have m2 : MgrNew w2 (w1.heap.size + 4) := by
    rw [hw2]
    refine ⟨q, w1.heap.size, w1.heap.size + 1, w1.heap.size + 2, w1.heap.size + 3, heap_at _ _ _ (by simp), ?_, ?_⟩
    · rw [heap_old _ _ _ (by simp), heap_old _ _ _ (by simp), heap_old _ _ _ (by simp), heap_at _ _ _ (by simp)]
    · rw [heap_old _ _ _ (by simp), heap_old _ _ _ (by simp), heap_at _ _ _ (by simp)]
  have z2 := e2.size
  clear hw2
  have hK2 := hK.below e2
  have hb2 := hb1.trans (e2.mono (by simp at hz1; omega))
  clear hK
  go_wp2
  go_ret2
  refine ⟨w2.heap.size + 1, l, rfl, by simp at hz1; omega, ⟨kb, kb + 1, w1.heap.size + 4, w2.heap.size, heap_at _ _ _ (by simp), ?_, ?_, ?_⟩, HN.out, ?_⟩
  · exact hK2.below (((Below.refl _ _).alloc (Nat.le_refl _) _).alloc (by simp) _)
  · exact m2.below (((Below.refl _ _).alloc (Nat.le_refl _) _).alloc (by simp) _)
  · rw [heap_old _ _ _ (by simp), heap_at _ _ _ rfl]
  · exact (hb2.alloc (by simp at hz1; omega) _).alloc (by simp at hz1; simp; omega) _

set_option maxHeartbeats 400000 in
theorem none_any (w : World) (d : Nat) (l : List Ss) (h : DBIs w d l) :
    Calls Tryz.prog 28 #[.pointer (some ⟨d, 0, none⟩)] w fun e w' => e = .returned (.bool false) ∧ w = w' := by
  obtain ⟨kb, base, mb, ob, h1, _⟩ := h.is
  have c0 : w.cell? ⟨d, 0, none⟩ = some (.pointer (some ⟨kb, 0, none⟩)) := cell_of_row w d 0 _ _ _ h1
  clear h1
  go_enter Tryz.func28, Tryz.ntmps28
  go_wp2
  go_ret
  exact ⟨rfl, rfl⟩
end Go.Proofs.YtacldkanfjaiiaaGreatDoor
