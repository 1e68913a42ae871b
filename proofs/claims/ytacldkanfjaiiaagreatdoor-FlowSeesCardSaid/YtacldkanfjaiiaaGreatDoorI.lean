/- Head where no letter waits; picks there. -/
import Derived.Test.YtacldkanfjaiiaaGreatDoorH
import Derived.Deep.Cut
namespace Go.Proofs.YtacldkanfjaiiaaGreatDoor
open Go.RowKit
set_option maxRecDepth 100000

set_option maxHeartbeats 400000 in
theorem headPost_none (w : World) (base p : Nat) (h : PostIs w base p [] []) :
    Calls Tryz.prog 57 #[.pointer (some ⟨p, 0, none⟩)] w fun e w' => ∃ v, e = .returned (.tuple #[v, .bool false]) ∧ w = w' := by
  obtain ⟨_, ch, v, s, r, h1, _, h3, h4⟩ := h
  obtain ⟨A, c, rfl, hs, _⟩ := own_sl h4 (by simp)
  have c0 : w.cell? ⟨p, 0, none⟩ = some (.chan (some ch)) := cell_of_row w p 0 _ _ _ h1
  have c1 : w.cell? ⟨p, 1, none⟩ = some (.slice A 0 c) := cell_of_row w p 1 _ _ _ h1
  have H3 := Lib.hid h3
  clear h1 h3 h4 hs
  go_enter Tryz.func57, Tryz.ntmps57
  go_upto_region 6 with (fail)
  refine wp_select_empty (c := ch) (z := .string ⟨#[]⟩) rfl (by kernel_rfl) H3.out ?_
  go_wp2
  go_ret2
  exact ⟨_, rfl, rfl⟩

set_option maxHeartbeats 400000 in
theorem kHeadFn_none (w : World) (b o g base p : Nat) (hc : w.cell? ⟨b, o + 2, none⟩ = some (.pointer (some ⟨p, 0, none⟩))) (h : PostIs w base p [] []) (hg : w.cell? ⟨g, 0, none⟩ = some (.bool false)) (hf : w.frozen? ⟨g, 0, none⟩ = false) :
    Calls Tryz.prog 56 #[.pointer (some ⟨b, o, none⟩), .pointer (some ⟨g, 0, none⟩)] w fun e w' => ∃ v, e = .returned v ∧ w' = w.setCell ⟨g, 0, none⟩ (.bool false) := by
  go_enter Tryz.func56, Tryz.ntmps56
  go_wp2_with fail
  refine (headPost_none w base p h).mono ?_
  rintro e w1 ⟨v, rfl, rfl⟩
  go_wp2
  go_ret
  exact ⟨_, rfl, rfl⟩

set_option maxHeartbeats 400000 in
theorem kOfHead_none (w : World) (kb base g : Nat) (l : List Ss) (i : Nat) (s : Ss) (h : KernIs w kb base l) (hl : l.length ≤ 6) (hi : l[i]? = some s) (h1 : s.hd = []) (h2 : s.bf = []) (hg : w.cell? ⟨g, 0, none⟩ = some (.bool false)) (hf : w.frozen? ⟨g, 0, none⟩ = false) :
    Calls Tryz.prog 55 #[.pointer (some ⟨kb, 0, none⟩), .int .i64 i, .func (.func 56) #[] #[.pointer (some ⟨g, 0, none⟩)]] w fun e w' => ∃ v, e = .returned v ∧ w' = w.setCell ⟨g, 0, none⟩ (.bool false) := by
  obtain ⟨b, off, n, c, c0, rfl, _, _, c2, hil, _⟩ := h.elem (by omega) hi
  have hso := Lib.hid (h.each s (List.mem_of_getElem? hi))
  have hp : PostIs w base s.p [] [] := by have := hso.out.post; rw [h1, h2] at this; exact this
  clear hi h1 h2
  have b0 : decide ((i : Int) < 0) = false := by simp; try omega
  have b1 : decide ((l.length : Int) ≤ (i : Int)) = false := by simp; try omega
  go_enter Tryz.func55, Tryz.ntmps55
  go_wp2_with (first
    | (go_at_call 29; refine (sessions_any w kb base l h hl).mono ?_; rintro e w' ⟨rfl, rfl⟩)
    | (go_at_call 56; refine (kHeadFn_none w b (off + i * 3) g base s.p c2 hp hg hf).mono ?_; rintro e w' ⟨v, rfl, rfl⟩))
  go_ret
  exact ⟨_, rfl, rfl⟩

set_option maxHeartbeats 400000 in
theorem kHead_none (w : World) (kb base : Nat) (l : List Ss) (i : Nat) (s : Ss) (h : KernIs w kb base l) (hl : l.length ≤ 6) (hi : l[i]? = some s) (h1 : s.hd = []) (h2 : s.bf = []) :
    Calls Tryz.prog 48 #[.pointer (some ⟨kb, 0, none⟩), .int .i64 i] w fun e w' => ∃ v, e = .returned (.tuple #[v, .bool false]) ∧ Below w.heap.size w w' := by
  have hmf : ∀ (fn : Fn) (first cap : Array Value) (w : World), (Instr.makeFunc fn first cap).run Tryz.prog w = .ok (.func fn first cap) w := fun _ _ _ _ => rfl
  have HI := Lib.hid hi
  have H1 := Lib.hid h1
  have H2 := Lib.hid h2
  clear hi h1 h2
  go_enter Tryz.func48, Tryz.ntmps48
  go_wp2_with fail
  refine (kOfHead_none _ kb base w.heap.size l i s (h.below (below_alloc w _)) hl HI.out H1.out H2.out ?_ ?_).mono ?_
  · rw [World.cell?_alloc_at _ _ _ _ rfl]; rfl
  · exact frozen_of_row _ _ 0 _ _ (heap_at w _ _ rfl)
  rintro e w1 ⟨v, rfl, hw⟩
  have hb1 : Below w.heap.size w w1 := by rw [hw]; exact (below_alloc w _).setCell (Nat.le_refl _) _
  have hc1 : w1.cell? ⟨w.heap.size, 0, none⟩ = some (.bool false) := by rw [hw]; exact cell_of_row _ _ 0 _ _ _ (heap_setCell_same _ _ 0 _ _ _ (heap_at w _ _ rfl))
  clear hw
  go_wp2
  go_quiet (fail)
  go_wp2
  go_ret2
  exact ⟨_, rfl, below_drewN hb1 _⟩

set_option maxHeartbeats 1000000 in
theorem picks_none (w : World) (d r : Nat) (l : List Ss) (i : Nat) (s : Ss) (h : DBIs w d l) (hl : l.length ≤ 6) (hi : l[i]? = some s) (h1 : s.hd = []) (h2 : s.bf = []) :
    Calls Tryz.prog 32 #[.pointer (some ⟨d, 0, none⟩), .int .i64 i, .pointer (some ⟨r, 0, none⟩)] w fun e w' => e = .returned (.bool false) ∧ Below w.heap.size w w' := by
  have HI := Lib.hid hi
  have H1 := Lib.hid h1
  have H2 := Lib.hid h2
  clear hi h1 h2
  obtain ⟨kb, base, mb, ob, d1, hk, _, _⟩ := h.is
  have c0 : w.cell? ⟨d, 0, none⟩ = some (.pointer (some ⟨kb, 0, none⟩)) := cell_of_row w d 0 _ _ _ d1
  clear d1
  go_enter Tryz.func32, Tryz.ntmps32
  go_wp2_with fail
  refine (kHead_none w kb base l i s hk hl HI.out H1.out H2.out).mono ?_
  rintro e w1 ⟨v, rfl, hb⟩
  go_wp2
  go_ret
  exact ⟨rfl, hb⟩
end Go.Proofs.YtacldkanfjaiiaaGreatDoor
