/- Purge of two steps that pick, the first of which is seen; begun of the law's folder 29. -/
import Derived.Test.YtacldkanfjaiiaaGreatDoorO
namespace Go.Proofs.YtacldkanfjaiiaaGreatDoor
open Go.RowKit
set_option maxRecDepth 100000

theorem news_two {l : List Ss} {i0 i1 : Si} (h : Ss.news l [i0, i1]) : ∃ s0 s1, l = [s0, s1] ∧ s0.lab = i0.lab ∧ s1.lab = i1.lab ∧ s0.hd = [] ∧ s0.bf = [] ∧ s1.hd = [] ∧ s1.bf = [] := by
  unfold Ss.news at h
  match l, h with
  | [s0, s1], h =>
    simp at h
    exact ⟨s0, s1, rfl, h.1.1, h.2.1, h.1.2.2.1, h.1.2.2.2, h.2.2.2.1, h.2.2.2.2⟩
  | [], h => simp at h
  | [_], h => simp at h
  | _ :: _ :: _ :: _, h => simp at h

set_option maxHeartbeats 1000000 in
theorem purge2_any (w : World) (B sb : Nat) (A : Option Addr) (c : Nat) (q : Int) (i0 i1 : Si) (A' : Option Addr) (n' c' : Nat) (ts : List Nat) (hB : B ≤ w.heap.size)
    (h : Sl w B 2 A 2 ([i0, i1].flatMap Si.cells)) (hs : ∀ s ∈ [i0, i1], s.Ok w B) (hq1 : 1 ≤ q) (hq2 : q ≤ 200)
    (h' : Sl w w.heap.size 1 A' n' (Us ts)) (f0 : flowsB i0.lab ts = true) (f1 : flowsB i1.lab ts = false)
    (hst : ∀ k : Nat, k < 2 → w.cell? ⟨sb, k * 3, none⟩ = some (.int .i64 2) ∧ w.cell? ⟨sb, k * 3 + 1, none⟩ = some (.int .i64 (k : Int)) ∧ w.cell? ⟨sb, k * 3 + 2, none⟩ = some (.string ⟨#[]⟩)) (hsb : sb < w.heap.size) :
    Calls Tryz.prog 11 #[.agg #[.slice A 2 c, .int .i64 q], .slice (some ⟨sb, 0, none⟩) 2 2, .slice A' n' c'] w fun e w' => ∃ v, e = .returned v ∧ w'.ownsRow w.heap.size 46 3 v 1 (pk 2) ∧ Below w.heap.size w w' := by
  have hmf : ∀ (fn : Fn) (first cap : Array Value) (w : World), (Instr.makeFunc fn first cap).run Tryz.prog w = .ok (.func fn first cap) w := fun _ _ _ _ => rfl
  have HS := Lib.hid hs
  have F0 := Lib.hid f0
  have F1 := Lib.hid f1
  have HST := Lib.hid hst
  clear hs f0 f1 hst
  have e0 : ∀ o o', Below w.heap.size w ((w.alloc o).alloc o') := fun o o' => ((Below.refl _ _).alloc (Nat.le_refl _) _).alloc (by simp) _
  have eb := e0 (.cells #[.slice A 2 c, .int .i64 q] 42) (.cells #[.slice A' n' c'] 23)
  have u0 : ((w.alloc (.cells #[.slice A 2 c, .int .i64 q] 42)).alloc (.cells #[.slice A' n' c'] 23)).heap[w.heap.size]? = some (.cells #[.slice A 2 c, .int .i64 q] 42) := by
    rw [heap_old _ _ _ (by simp), heap_at _ _ _ rfl]
  have u1 : ((w.alloc (.cells #[.slice A 2 c, .int .i64 q] 42)).alloc (.cells #[.slice A' n' c'] 23)).heap[w.heap.size + 1]? = some (.cells #[.slice A' n' c'] 23) := by
    rw [heap_at _ _ _ (by simp)]
  have U0 := Lib.hid u0
  have U1 := Lib.hid u1
  clear e0 u0 u1
  go_enter Tryz.func11, Tryz.ntmps11
  go_wp2_with fail
  refine (dbNew_any A 2 c [i0, i1] q _ B (by simp; omega) (h.below (eb.mono hB)) (fun s hs => (HS.out s hs).below (eb.mono hB)) (by omega) (by omega) hq1 hq2).mono ?_
  rintro e w1 ⟨d, l, rfl, hd, hD, hN, hb⟩
  obtain ⟨s0, s1, rfl, n0, n1, n2, n3, n4, n5⟩ := news_two hN
  have N0 := Lib.hid n0
  have N1 := Lib.hid n1
  have N2 := Lib.hid n2
  have N3 := Lib.hid n3
  have N4 := Lib.hid n4
  have N5 := Lib.hid n5
  clear hN n0 n1 n2 n3 n4 n5
  have v0 := Lib.hid ((hb.block w.heap.size (by simp; try omega)).trans U0.out)
  have v1 := Lib.hid ((hb.block (w.heap.size + 1) (by simp; try omega)).trans U1.out)
  have hb1 := eb.trans (hb.mono eb.size)
  have z1 : w.heap.size + 2 ≤ w1.heap.size := by have := hb.size; simp at this; omega
  clear U0 U1 hb eb
  have e2 := below_alloc w1 (.cells #[.pointer (some ⟨d, 0, none⟩)] 51)
  have hb2 := hb1.trans (e2.mono hb1.size)
  go_wp2_with fail
  refine (thoseSteps_any _ sb A 2 c q d w.heap.size w1.heap.size (w.heap.size + 1) [s0, s1] s0 s1 A' n' c' ts (hD.below e2) rfl rfl rfl rfl ((h'.below hb2).more hb2.size) N2.out N3.out N4.out N5.out (by rw [N0.out]; exact F0.out) (by rw [N1.out]; exact F1.out)
    (fun k hk => ?_) (by simp; omega) ?_ ?_ ?_ ?_ (by simp; omega) (by simp) (by simp; omega)).mono ?_
  · obtain ⟨t0, t1, t2⟩ := HST.out k hk
    exact ⟨(hb2.cell (p := ⟨sb, k * 3, none⟩) hsb).trans t0, (hb2.cell (p := ⟨sb, k * 3 + 1, none⟩) hsb).trans t1, (hb2.cell (p := ⟨sb, k * 3 + 2, none⟩) hsb).trans t2⟩
  · exact (e2.cell (p := ⟨w.heap.size, 0, none⟩) (by simp; omega)).trans (cell_of_row w1 _ 0 _ _ _ v0.out)
  · exact (e2.cell (p := ⟨w.heap.size, 1, none⟩) (by simp; omega)).trans (cell_of_row w1 _ 1 _ _ _ v0.out)
  · rw [World.cell?_alloc_at _ _ _ _ rfl]; rfl
  · exact (e2.cell (p := ⟨w.heap.size + 1, 0, none⟩) (by simp; omega)).trans (cell_of_row w1 _ 0 _ _ _ v1.out)
  rintro e w2 ⟨v, rfl, hown, hb3⟩
  have hown1 := own_mono (base' := w.heap.size) hown (by simp; omega)
  have hb4 := hb2.trans (hb3.mono hb2.size)
  clear hown hb3 hb2 hb1 e2
  go_wp2
  go_ret
  exact ⟨_, rfl, hown1, hb4⟩
end Go.Proofs.YtacldkanfjaiiaaGreatDoor
