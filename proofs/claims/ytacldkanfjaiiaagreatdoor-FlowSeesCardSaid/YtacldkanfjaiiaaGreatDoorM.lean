/- Purge of two steps that pick where nothing waits. -/
import Derived.Test.YtacldkanfjaiiaaGreatDoorJ
import Derived.Test.YtacldkanfjaiiaaGreatDoorE
namespace Go.Proofs.YtacldkanfjaiiaaGreatDoor
open Go.RowKit
set_option maxRecDepth 100000

set_option maxHeartbeats 1000000 in
theorem flowseen_any (w : World) (A : Option Addr) (n c : Nat) (q : Int) (d : Nat) (l : List Ss) (i : Nat) (s : Ss) (A' : Option Addr) (n' c' : Nat) (ts : List Nat) (h : DBIs w d l) (hl : l.length ≤ 6) (hi : l[i]? = some s) (hn : n = l.length)
    (h' : Sl w w.heap.size 1 A' n' (Us ts)) :
    Calls Tryz.prog 20 #[.agg #[.slice A n c, .int .i64 q], .pointer (some ⟨d, 0, none⟩), .agg #[.int .i64 2, .int .i64 i, .string ⟨#[]⟩], .slice A' n' c'] w fun e w' => e = .returned (.bool (flowsB s.lab ts)) ∧ Below w.heap.size w w' := by
  have HI := Lib.hid hi
  have hil : i < l.length := (List.getElem?_eq_some_iff.1 hi).1
  have hmay := (Lib.hid (h.is))
  have hlm : s.lab.length ≤ 65536 := by
    obtain ⟨kb, base, mb, ob, _, hk, _⟩ := hmay.out
    have := mayB_len (hk.each s (List.mem_of_getElem? hi)).may
    omega
  clear hi hmay
  subst hn
  have b0 : decide (0 ≤ (i : Int)) = true := by simp
  have b1 : decide ((i : Int) < (l.length : Int)) = true := by simp; try omega
  have e0 : ∀ o o', Below w.heap.size w ((w.alloc o).alloc o') := fun o o' => ((Below.refl _ _).alloc (Nat.le_refl _) _).alloc (by simp) _
  go_enter Tryz.func20, Tryz.ntmps20
  go_wp2_with fail
  have hb := e0 (.cells #[.slice A l.length c, .int .i64 q] 42) (.cells #[.int .i64 2, .int .i64 i, .string ⟨#[]⟩] 46)
  clear e0
  refine (dLabel_any _ d l i s (h.below hb) hl HI.out).mono ?_
  rintro e w1 ⟨v, rfl, hown, hb1⟩
  obtain ⟨A1, c1, rfl, hs1, _⟩ := own_sl hown (by omega)
  have hb2 := hb.trans (hb1.mono hb.size)
  have h2 := (h'.below hb2).more hb2.size
  clear hown hb1 hb
  go_wp2_with fail
  refine (flows_any A1 s.lab.length c1 s.lab A' n' c' ts w1 w1.heap.size (Nat.le_refl _) hs1 h2 hlm).mono ?_
  rintro e w2 ⟨rfl, hb3⟩
  have hb4 := hb2.trans (hb3.mono hb2.size)
  clear hb3 hb2
  go_wp2
  go_ret
  exact ⟨rfl, hb4⟩

set_option maxHeartbeats 1000000 in
theorem purgeFn_any (w : World) (A : Option Addr) (n c : Nat) (q : Int) (d g1 g2 g3 : Nat) (l : List Ss) (i : Nat) (s : Ss) (A' : Option Addr) (n' c' : Nat) (ts : List Nat) (h : DBIs w d l) (hl : l.length ≤ 6) (hi : l[i]? = some s) (hn : n = l.length)
    (h' : Sl w w.heap.size 1 A' n' (Us ts)) (hd : s.hd = []) (hbf : s.bf = [])
    (x0 : w.cell? ⟨g1, 0, none⟩ = some (.slice A n c)) (x1 : w.cell? ⟨g1, 1, none⟩ = some (.int .i64 q)) (x2 : w.cell? ⟨g2, 0, none⟩ = some (.pointer (some ⟨d, 0, none⟩))) (x3 : w.cell? ⟨g3, 0, none⟩ = some (.slice A' n' c')) (l1 : g1 < w.heap.size) (l2 : g2 < w.heap.size) (l3 : g3 < w.heap.size) :
    Calls Tryz.prog 19 #[.agg #[.int .i64 2, .int .i64 i, .string ⟨#[]⟩], .pointer (some ⟨g1, 0, none⟩), .pointer (some ⟨g2, 0, none⟩), .pointer (some ⟨g3, 0, none⟩)] w fun e w' => e = .returned (.bool (flowsB s.lab ts)) ∧ Below w.heap.size w w' := by
  have HI := Lib.hid hi
  have HD := Lib.hid hd
  have HB := Lib.hid hbf
  have HN := Lib.hid hn
  clear hi hd hbf hn
  have e0 := below_alloc w (.cells #[.int .i64 2, .int .i64 i, .string ⟨#[]⟩] 46)
  have y0 := (e0.cell (p := ⟨g1, 0, none⟩) l1).trans x0
  have y1 := (e0.cell (p := ⟨g1, 1, none⟩) l1).trans x1
  have y2 := (e0.cell (p := ⟨g2, 0, none⟩) l2).trans x2
  have y3 := (e0.cell (p := ⟨g3, 0, none⟩) l3).trans x3
  clear x0 x1 x3
  go_enter Tryz.func19, Tryz.ntmps19
  go_wp2_with fail
  refine (flowseen_any _ A n c q d l i s A' n' c' ts (h.below e0) hl HI.out HN.out ((h'.below e0).more e0.size)).mono ?_
  rintro e w1 ⟨rfl, hb⟩
  have hb1 := e0.trans (hb.mono e0.size)
  have z1 := (hb1.cell (p := ⟨g2, 0, none⟩) l2).trans x2
  have s0 := new_cell hb 0
  have s1 := new_cell hb 1
  have s2 := new_cell hb 2
  simp only [List.getElem?_toArray, List.getElem?_cons_zero, List.getElem?_cons_succ] at s0 s1 s2
  clear y0 y1 y2 y3 e0 hb
  go_wp2_with fail
  refine (step_none w1 d l i s (h.below hb1) hl HI.out HD.out HB.out).mono ?_
  rintro e w2 ⟨v, rfl, hb2⟩
  have hb3 := hb1.trans (hb2.mono hb1.size)
  clear hb1 hb2
  go_wp2
  go_ret
  exact ⟨rfl, hb3⟩
end Go.Proofs.YtacldkanfjaiiaaGreatDoor
