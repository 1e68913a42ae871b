/- Purge of two steps that pick, the first of which is seen; begun of the law's folder 29. -/
import Derived.Test.YtacldkanfjaiiaaGreatDoorM
namespace Go.Proofs.YtacldkanfjaiiaaGreatDoor
open Go.RowKit
set_option maxRecDepth 100000

theorem T_steps : SliceTy Tryz.prog 43 46 3 32 := SliceTy.mk' (z := .agg #[.int .i64 0, .int .i64 0, .string ⟨#[]⟩]) Tryz.underlying43 (by kernel_rfl) rfl (by omega)

/-- what is kept of the first k of two steps -/
def pk (k : Nat) : List Value := if k = 0 then [] else [.int .i64 2, .int .i64 0, .string ⟨#[]⟩]
def pn (k : Nat) : Nat := if k = 0 then 0 else 1

set_option maxHeartbeats 2000000 in
theorem thoseSteps_any (w : World) (sb : Nat) (A : Option Addr) (n c : Nat) (q : Int) (d g1 g2 g3 : Nat) (l : List Ss) (s0 s1 : Ss) (A' : Option Addr) (n' c' : Nat) (ts : List Nat) (h : DBIs w d l) (hl : l.length = 2) (h0 : l[0]? = some s0) (h1 : l[1]? = some s1) (hn : n = l.length)
    (h' : Sl w w.heap.size 1 A' n' (Us ts)) (hd0 : s0.hd = []) (hbf0 : s0.bf = []) (hd1 : s1.hd = []) (hbf1 : s1.bf = [])
    (f0 : flowsB s0.lab ts = true) (f1 : flowsB s1.lab ts = false)
    (hst : ∀ k : Nat, k < 2 → w.cell? ⟨sb, k * 3, none⟩ = some (.int .i64 2) ∧ w.cell? ⟨sb, k * 3 + 1, none⟩ = some (.int .i64 (k : Int)) ∧ w.cell? ⟨sb, k * 3 + 2, none⟩ = some (.string ⟨#[]⟩)) (hsb : sb < w.heap.size)
    (x0 : w.cell? ⟨g1, 0, none⟩ = some (.slice A n c)) (x1 : w.cell? ⟨g1, 1, none⟩ = some (.int .i64 q)) (x2 : w.cell? ⟨g2, 0, none⟩ = some (.pointer (some ⟨d, 0, none⟩))) (x3 : w.cell? ⟨g3, 0, none⟩ = some (.slice A' n' c')) (l1 : g1 < w.heap.size) (l2 : g2 < w.heap.size) (l3 : g3 < w.heap.size) :
    Calls Tryz.prog 18 #[.slice (some ⟨sb, 0, none⟩) 2 2, .func (.func 19) #[] #[.pointer (some ⟨g1, 0, none⟩), .pointer (some ⟨g2, 0, none⟩), .pointer (some ⟨g3, 0, none⟩)]] w fun e w' => ∃ v, e = .returned v ∧ w'.ownsRow w.heap.size 46 3 v 1 (pk 2) ∧ Below w.heap.size w w' := by
  have HL := Lib.hid hl
  have H0 := Lib.hid h0
  have H1 := Lib.hid h1
  have HN := Lib.hid hn
  have D0 := Lib.hid hd0
  have D1 := Lib.hid hd1
  have B0 := Lib.hid hbf0
  have B1 := Lib.hid hbf1
  have F0 := Lib.hid f0
  have F1 := Lib.hid f1
  have X0 := Lib.hid x0
  have X1 := Lib.hid x1
  have X2 := Lib.hid x2
  have X3 := Lib.hid x3
  have HST := Lib.hid hst
  clear hl h0 h1 hn hd0 hd1 hbf0 hbf1 f0 f1 x0 x1 x2 x3 hst
  go_enter Tryz.func18, Tryz.ntmps18
  go_wp2
  go_loopw [5, 10] (fun v i wr => ∃ k : Nat, k ≤ 2 ∧ i = .int .i64 k ∧ wr.ownsRow w.heap.size 46 3 v (pn k) (pk k) ∧ Below w.heap.size w wr) (fun _ i _ => 2 - (intOf i).toNat)
  case atStart => exact ⟨0, Nat.zero_le _, rfl, World.ownsRow_nil _ _ _ _, Below.refl _ _⟩
  case round =>
    obtain ⟨k, hk, rfl, hown, hnx⟩ := hrel
    by_cases hlt : k < 2
    · obtain ⟨q0, q1, q2⟩ := HST.out k hlt
      have r0 := (hnx.cell (p := ⟨sb, k * 3, none⟩) hsb).trans q0
      have r1 := (hnx.cell (p := ⟨sb, k * 3 + 1, none⟩) hsb).trans q1
      have r2 := (hnx.cell (p := ⟨sb, k * 3 + 2, none⟩) hsb).trans q2
      have hsz := hnx.size
      clear q0 q1 q2
      have hb0 := hnx.trans ((below_alloc wr (.cells #[.int .i64 2, .int .i64 (k : Int), .string ⟨#[]⟩] 46)).mono hsz)
      have y0 := Lib.hid ((hb0.cell (p := ⟨g1, 0, none⟩) l1).trans X0.out)
      have y1 := Lib.hid ((hb0.cell (p := ⟨g1, 1, none⟩) l1).trans X1.out)
      have y2 := Lib.hid ((hb0.cell (p := ⟨g2, 0, none⟩) l2).trans X2.out)
      have y3 := Lib.hid ((hb0.cell (p := ⟨g3, 0, none⟩) l3).trans X3.out)
      have hD := h.below hb0
      have hS := (h'.below hb0).more hb0.size
      have hown0 := hown.alloc (.cells #[.int .i64 2, .int .i64 (k : Int), .string ⟨#[]⟩] 46)
      rcases Nat.lt_or_ge k 1 with hk1 | hk1
      · obtain rfl : k = 0 := by omega
        go_wp2_with fail
        refine (purgeFn_any _ A n c q d g1 g2 g3 l 0 s0 A' n' c' ts hD (by have := HL.out; omega) H0.out HN.out hS D0.out B0.out y0.out y1.out y2.out y3.out (by simp; omega) (by simp; omega) (by simp; omega)).mono ?_
        rintro e w1 ⟨rfl, hb1⟩
        have hb2 := hb0.trans (hb1.mono hb0.size)
        have t0 := new_cell hb1 0
        have t1 := new_cell hb1 1
        have t2 := new_cell hb1 2
        simp only [List.getElem?_toArray, List.getElem?_cons_zero, List.getElem?_cons_succ] at t0 t1 t2
        have hown1 := own_below hown0 hb1
        clear hown hown0 hb1 hb0 y0 y1 y2 y3 r0 r1 r2
        rw [F0.out]
        have hsz1 := hb2.size
        go_wp2_with (at_builtin; refine wpList_push T_steps rfl (.tmp 17) (.tmp 19) rfl rfl rfl hown1 ?c1 ?c2 ?c3 ?c4 ?c5 ?_)
        case c1 => rfl
        case c2 => exact ⟨rfl, rfl, rfl⟩
        case c3 => simp [pn]
        case c4 => unfold maxLen; simp [pn]
        case c5 => omega
        intro v' w2 hown2 hb3 _
        have hb4 := hb2.trans hb3
        have hown3 : w2.ownsRow w.heap.size 46 3 v' (pn 1) (pk 1) := hown2
        clear hown1 hown2 hb3 hb2
        go_wp2
        go_roundw
        case rel => exact ⟨1, by omega, by go_num, hown3, hb4⟩
        case measure => simp [intOf]
      · obtain rfl : k = 1 := by omega
        go_wp2_with fail
        refine (purgeFn_any _ A n c q d g1 g2 g3 l 1 s1 A' n' c' ts hD (by have := HL.out; omega) H1.out HN.out hS D1.out B1.out y0.out y1.out y2.out y3.out (by simp; omega) (by simp; omega) (by simp; omega)).mono ?_
        rintro e w1 ⟨rfl, hb1⟩
        have hb2 := hb0.trans (hb1.mono hb0.size)
        have hown1 : w1.ownsRow w.heap.size 46 3 u5 (pn 2) (pk 2) := own_below hown0 hb1
        clear hown hown0 hb1 hb0 y0 y1 y2 y3 r0 r1 r2
        rw [F1.out]
        go_wp2
        go_roundw
        case rel => exact ⟨2, by omega, by go_num, hown1, hb2⟩
        case measure => simp [intOf]
    · obtain rfl : k = 2 := by omega
      have hown1 : wr.ownsRow w.heap.size 46 3 u5 1 (pk 2) := hown
      clear hown
      go_wp2
      go_ret
      exact ⟨_, rfl, hown1, hnx⟩
end Go.Proofs.YtacldkanfjaiiaaGreatDoor
