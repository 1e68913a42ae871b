/- A session's label. -/
import Derived.Test.YtacldkanfjaiiaaGreatDoorG
namespace Go.Proofs.YtacldkanfjaiiaaGreatDoor
open Go.RowKit
set_option maxRecDepth 100000

/-- the k-th session in memory -/
theorem KernIs.elem {w : World} {kb base : Nat} {l : List Ss} (h : KernIs w kb base l) (hl : l.length ≤ 9223372036854775807) {i : Nat} {s : Ss} (hi : l[i]? = some s) :
    ∃ b off n c, w.cell? ⟨kb, 0, none⟩ = some (.slice (some ⟨b, off, none⟩) n c) ∧ n = l.length ∧ w.cell? ⟨b, off + i * 3, none⟩ = some s.lv ∧ w.cell? ⟨b, off + i * 3 + 1, none⟩ = some s.ov ∧
      w.cell? ⟨b, off + i * 3 + 2, none⟩ = some (.pointer (some ⟨s.p, 0, none⟩)) ∧ i < l.length ∧ b < w.heap.size := by
  obtain ⟨v, m, h1, _, _, h4⟩ := h.is
  obtain ⟨A, c, rfl, hs, _⟩ := own_sl h4 hl
  have hil := (List.getElem?_eq_some_iff.1 hi).1
  obtain ⟨b, off, a, rfl, hb, ha, hc⟩ := Sl.elem (f := Ss.cells) (m := 3) (fun _ => rfl) (by omega) hs hil
  rw [hi] at ha; injection ha with ha; subst ha
  exact ⟨b, off, _, c, cell_of_row w kb 0 _ _ _ h1, rfl, hc 0 (by omega), hc 1 (by omega), hc 2 (by omega), hil, hb⟩

set_option maxHeartbeats 400000 in
theorem sessions_any (w : World) (kb base : Nat) (l : List Ss) (h : KernIs w kb base l) (hl : l.length ≤ 6) :
    Calls Tryz.prog 29 #[.pointer (some ⟨kb, 0, none⟩)] w fun e w' => e = .returned (.int .i64 l.length) ∧ w = w' := by
  obtain ⟨v, m, h1, _, _, h4⟩ := h.is
  obtain ⟨A, c, rfl, hs, _⟩ := own_sl h4 (by omega)
  have c0 : w.cell? ⟨kb, 0, none⟩ = some (.slice A l.length c) := cell_of_row w kb 0 _ _ _ h1
  clear h1 h4 hs
  go_enter Tryz.func29, Tryz.ntmps29
  go_wp2
  go_ret
  exact ⟨rfl, rfl⟩

set_option maxHeartbeats 400000 in
theorem kLabelFn_any (w : World) (b o base : Nat) (lv : Value) (lab : List Nat) (hc : w.cell? ⟨b, o, none⟩ = some lv) (h : w.ownsRow base 39 1 lv lab.length (Us lab)) (hn : lab.length ≤ 65536) :
    Calls Tryz.prog 46 #[.pointer (some ⟨b, o, none⟩)] w fun e w' => ∃ v, e = .returned v ∧ w'.ownsRow w.heap.size 39 1 v lab.length (Us lab) ∧ Below w.heap.size w w' := by
  obtain ⟨A, c, rfl, hs, _⟩ := own_sl h (by omega)
  clear h
  go_enter Tryz.func46, Tryz.ntmps46
  go_wp2_with fail
  refine (cloneLabel_any A lab.length c lab w w.heap.size (Nat.le_refl _) hs hn).mono ?_
  rintro e w1 ⟨v, rfl, hown, hb⟩
  go_wp2
  go_ret
  exact ⟨_, rfl, hown, hb⟩

set_option maxHeartbeats 400000 in
theorem kOfLabel_any (w : World) (kb base : Nat) (l : List Ss) (i : Nat) (s : Ss) (h : KernIs w kb base l) (hl : l.length ≤ 6) (hi : l[i]? = some s) :
    Calls Tryz.prog 45 #[.pointer (some ⟨kb, 0, none⟩), .int .i64 i, .func (.func 46) #[] #[]] w fun e w' => ∃ v, e = .returned v ∧ w'.ownsRow w.heap.size 39 1 v s.lab.length (Us s.lab) ∧ Below w.heap.size w w' := by
  obtain ⟨b, off, n, c, c0, rfl, c1, _, _, hil, _⟩ := h.elem (by omega) hi
  have hso := Lib.hid (h.each s (List.mem_of_getElem? hi))
  have HI := Lib.hid hi
  clear hi
  have b0 : decide ((i : Int) < 0) = false := by simp; try omega
  have b1 : decide ((l.length : Int) ≤ (i : Int)) = false := by simp; try omega
  go_enter Tryz.func45, Tryz.ntmps45
  go_wp2_with (first
    | (go_at_call 29; refine (sessions_any w kb base l h hl).mono ?_; rintro e w' ⟨rfl, rfl⟩)
    | (go_at_call 46; refine (kLabelFn_any w b (off + i * 3) base s.lv s.lab c1 hso.out.lab (by have := mayB_len hso.out.may; omega)).mono ?_; rintro e w' ⟨v, rfl, hown, hb⟩))
  go_ret
  exact ⟨_, rfl, hown, hb⟩

set_option maxHeartbeats 400000 in
theorem kLabel_any (w : World) (kb base : Nat) (l : List Ss) (i : Nat) (s : Ss) (h : KernIs w kb base l) (hl : l.length ≤ 6) (hi : l[i]? = some s) :
    Calls Tryz.prog 30 #[.pointer (some ⟨kb, 0, none⟩), .int .i64 i] w fun e w' => ∃ v, e = .returned v ∧ w'.ownsRow w.heap.size 39 1 v s.lab.length (Us s.lab) ∧ Below w.heap.size w w' := by
  have HI := Lib.hid hi
  clear hi
  go_enter Tryz.func30, Tryz.ntmps30
  go_wp2_with fail
  refine (kOfLabel_any w kb base l i s h hl HI.out).mono ?_
  rintro e w1 ⟨v, rfl, hown, hb⟩
  go_wp2
  go_ret
  exact ⟨_, rfl, hown, hb⟩

set_option maxHeartbeats 400000 in
theorem dLabelFn_any (w : World) (d g1 g2 : Nat) (l : List Ss) (i : Nat) (s : Ss) (h : DBIs w d l) (hl : l.length ≤ 6) (hi : l[i]? = some s)
    (h1 : w.cell? ⟨g1, 0, none⟩ = some (.pointer (some ⟨d, 0, none⟩))) (h2 : w.cell? ⟨g2, 0, none⟩ = some (.int .i64 i)) :
    Calls Tryz.prog 44 #[.pointer (some ⟨g1, 0, none⟩), .pointer (some ⟨g2, 0, none⟩)] w fun e w' => ∃ v, e = .returned v ∧ w'.ownsRow w.heap.size 39 1 v s.lab.length (Us s.lab) ∧ Below w.heap.size w w' := by
  have HI := Lib.hid hi
  clear hi
  obtain ⟨kb, base, mb, ob, d1, hk, _, _⟩ := h.is
  have c0 : w.cell? ⟨d, 0, none⟩ = some (.pointer (some ⟨kb, 0, none⟩)) := cell_of_row w d 0 _ _ _ d1
  clear d1
  go_enter Tryz.func44, Tryz.ntmps44
  go_wp2
  go_still_tail 5, (by kernel_rfl)
  change wpList _ _ _ _ _ w.drew
  have hk2 : KernIs w.drew kb base l := hk.below ((Below.refl _ _).drew)
  have e0 : Below w.heap.size w w.drew := (Below.refl _ _).drew
  go_wp2_with fail
  refine (kLabel_any w.drew kb base l i s hk2 hl HI.out).mono ?_
  rintro e w1 ⟨v, rfl, hown, hb⟩
  have hb1 := e0.trans (hb.mono (by simp))
  clear hb e0
  go_wp2
  go_ret
  exact ⟨_, rfl, hown, hb1⟩

set_option maxHeartbeats 400000 in
theorem dOfLabel_any (w : World) (d g1 g2 : Nat) (l : List Ss) (i : Nat) (s : Ss) (h : DBIs w d l) (hl : l.length ≤ 6) (hi : l[i]? = some s)
    (h1 : w.cell? ⟨g1, 0, none⟩ = some (.pointer (some ⟨d, 0, none⟩))) (h2 : w.cell? ⟨g2, 0, none⟩ = some (.int .i64 i)) :
    Calls Tryz.prog 43 #[.pointer (some ⟨d, 0, none⟩), .func (.func 44) #[] #[.pointer (some ⟨g1, 0, none⟩), .pointer (some ⟨g2, 0, none⟩)]] w fun e w' => ∃ v, e = .returned v ∧ w'.ownsRow w.heap.size 39 1 v s.lab.length (Us s.lab) ∧ Below w.heap.size w w' := by
  have HI := Lib.hid hi
  clear hi
  go_enter Tryz.func43, Tryz.ntmps43
  go_wp2_with (first
    | (go_at_call 28; refine (none_any w d l h).mono ?_; rintro e w' ⟨rfl, rfl⟩)
    | (go_at_call 44; refine (dLabelFn_any w d g1 g2 l i s h hl HI.out h1 h2).mono ?_; rintro e w' ⟨v, rfl, hown, hb⟩))
  go_ret
  exact ⟨_, rfl, hown, hb⟩

set_option maxHeartbeats 400000 in
theorem dLabel_any (w : World) (d : Nat) (l : List Ss) (i : Nat) (s : Ss) (h : DBIs w d l) (hl : l.length ≤ 6) (hi : l[i]? = some s) :
    Calls Tryz.prog 27 #[.pointer (some ⟨d, 0, none⟩), .int .i64 i] w fun e w' => ∃ v, e = .returned v ∧ w'.ownsRow w.heap.size 39 1 v s.lab.length (Us s.lab) ∧ Below w.heap.size w w' := by
  have hmf : ∀ (fn : Fn) (first cap : Array Value) (w : World), (Instr.makeFunc fn first cap).run Tryz.prog w = .ok (.func fn first cap) w := fun _ _ _ _ => rfl
  have HI := Lib.hid hi
  clear hi
  have e0 : ∀ o o', Below w.heap.size w ((w.alloc o).alloc o') := fun o o' => ((Below.refl _ _).alloc (Nat.le_refl _) _).alloc (by simp) _
  go_enter Tryz.func27, Tryz.ntmps27
  go_wp2_with fail
  refine (dOfLabel_any _ d w.heap.size (w.heap.size + 1) l i s (h.below (e0 _ _)) hl HI.out ?_ ?_).mono ?_
  · rw [World.cell?_alloc_lt _ _ _ (by simp), World.cell?_alloc_at _ _ _ _ rfl]; rfl
  · rw [World.cell?_alloc_at _ _ _ _ (by simp)]; rfl
  rintro e w1 ⟨v, rfl, hown, hb⟩
  have hown1 := own_mono (base' := w.heap.size) hown (by simp; omega)
  have hb1 := (e0 _ _).trans (hb.mono (by simp; omega))
  clear hown hb
  go_wp2
  go_ret
  exact ⟨_, rfl, hown1, hb1⟩
end Go.Proofs.YtacldkanfjaiiaaGreatDoor
