/- label.May, slices.Clone at labels. -/
import Derived.Test.YtacldkanfjaiiaaGreatDoorC
import Derived.Lib.SliceRun
namespace Go.Proofs.YtacldkanfjaiiaaGreatDoor
open Go.RowKit
set_option maxRecDepth 100000

set_option maxHeartbeats 400000 in
theorem rises_any (A : Option Addr) (n c : Nat) (ts : List Nat) (w : World) (B : Nat) (h : Sl w B 1 A n (Us ts)) :
    Calls Tryz.prog 53 #[.slice A n c] w fun e w' => e = .returned (.bool (risesB ts)) ∧ ∃ d, w' = w.drewN d := by
  have hn := h.2.1
  have hlen' : n ≤ ts.length := by rw [h.len1]; omega
  have hlen : ts.length ≤ n := by rw [h.len1]; omega
  go_enter Tryz.func53, Tryz.ntmps53
  go_wp2
  go_loopw [3] (fun i wr => (∃ d, wr = w.drewN d) ∧ ∃ m : Nat, (m ≤ n) ∧ i = .int .i64 ((m : Int) + 1) ∧ ∀ j, j + 1 < m + 1 → tg ts j < tg ts (j + 1)) (fun i _ => n + 1 - (intOf i).toNat)
  case atStart => exact ⟨⟨0, rfl⟩, 0, by omega, rfl, fun j hj => absurd hj (by omega)⟩
  case round =>
    obtain ⟨⟨d, rfl⟩, m, hm, rfl, hall⟩ := hrel
    have H := Lib.hid hall
    clear hall
    by_cases hlt : m + 1 < n
    · obtain ⟨b, off, rfl, hb, hc, hl⟩ := h.tag hlt
      obtain ⟨b', off', e, hb', hc', hl'⟩ := h.tag (k := m) (by omega)
      injection e with e; injection e with e1 e2; subst e1 e2
      by_cases hr : tg ts m < tg ts (m + 1)
      · have hb1 : decide (((tg ts (m + 1) : Nat) : Int) ≤ ((tg ts m : Nat) : Int)) = false := by simpa using hr
        go_wp2
        go_quiet (fail)
        go_wp2
        go_roundw
        case rel =>
          refine ⟨⟨_, rfl⟩, m + 1, by omega, by go_num, fun j hj => ?_⟩
          rcases Nat.lt_or_ge j m with h1 | h1
          · exact H.out j (by omega)
          · have : j = m := by omega
            subst this; exact hr
        case measure => simp [intOf]; omega
      · have hm := Lib.hid (risesB_false (l := ts) (k := m) (by omega) hr)
        have hb1 : decide (((tg ts (m + 1) : Nat) : Int) ≤ ((tg ts m : Nat) : Int)) = true := by simp; omega
        go_wp2
        go_quiet (fail)
        go_wp2
        go_ret
        exact ⟨ret_bool hm.out.symm, _, World.drewN_drewN _ _ _⟩
    · have hm := Lib.hid (risesB_iff.2 fun j hj => H.out j (by omega))
      go_wp2
      go_ret
      exact ⟨ret_bool hm.out.symm, _, rfl⟩

set_option maxHeartbeats 400000 in
theorem may_any (A : Option Addr) (n c : Nat) (ts : List Nat) (w : World) (B : Nat) (h : Sl w B 1 A n (Us ts)) :
    Calls Tryz.prog 38 #[.slice A n c] w fun e w' => e = .returned (.bool (mayB ts)) ∧ ∃ d, w' = w.drewN d := by
  have hl := h.len1
  by_cases h8 : n ≤ 8
  · have hm := Lib.hid (show mayB ts = risesB ts by simp [mayB, hl, h8])
    clear hl
    go_enter Tryz.func38, Tryz.ntmps38
    go_wp2_with (go_at_call 53; refine (rises_any A n c ts _ B h).mono ?_; rintro e w' ⟨rfl, d, rfl⟩)
    go_ret
    exact ⟨ret_bool hm.out.symm, _, rfl⟩
  · have hm := Lib.hid (show mayB ts = false by simp [mayB, hl, h8])
    clear hl
    go_enter Tryz.func38, Tryz.ntmps38
    go_wp2
    go_ret
    exact ⟨ret_bool hm.out.symm, 0, rfl⟩

theorem T_label : SliceTy Tryz.prog 23 39 1 2 := SliceTy.mk' (z := .int .u16 0) Tryz.underlying23 (by kernel_rfl) rfl (by omega)

set_option maxHeartbeats 400000 in
theorem cloneLabel_any (A : Option Addr) (n c : Nat) (ts : List Nat) (w : World) (B : Nat) (hB : B ≤ w.heap.size) (h : Sl w B 1 A n (Us ts)) (hn6 : n ≤ 65536) :
    Calls Tryz.prog 39 #[.slice A n c] w fun e w' =>
      ∃ v, e = .returned v ∧ w'.ownsRow w.heap.size 39 1 v ts.length (Us ts) ∧ Below w.heap.size w w' := by
  have hnil := fun (w : World) (a : Option Addr) (l c : Nat) => Lib.run_eql_slice_nil (P := Tryz.prog) w 23 39 a l c 0 0 Tryz.underlying23
  have hl := h.len1
  rcases A with _ | ad
  · have h0 : n = 0 := by
      rcases Nat.eq_zero_or_pos n with h0 | h0
      · exact h0
      · obtain ⟨b, off, e, _⟩ := h.2.2 h0; cases e
    have : ts = [] := List.eq_nil_of_length_eq_zero (by omega)
    subst this
    clear hl h0 h
    go_enter Tryz.func39, Tryz.ntmps39
    go_wp2
    go_ret
    exact ⟨_, rfl, World.ownsRow_nil _ _ _ _, Below.refl _ _⟩
  · obtain rfl : n = ts.length := hl.symm
    have h2 := h.alloc hB (.cells #[] 39)
    have h3 := own_empty w w.heap.size 39 1 (Nat.le_refl _)
    go_enter Tryz.func39, Tryz.ntmps39
    go_wp2_with (at_builtin; refine wpList_cat T_label rfl (.tmp 5) (.tmp 6) rfl rfl rfl h3 h2 ?c2 ?c3 ?c4 (by simp) ?_)
    case c2 => intro u hu; simp [Us] at hu; obtain ⟨t, _, rfl⟩ := hu; rfl
    case c3 => omega
    case c4 => unfold maxLen; omega
    intro v' w1 hown hb hs1
    have hb1 := (below_alloc w _).trans hb
    try simp only [Nat.zero_add, List.nil_append] at hown
    clear hb
    go_wp2
    go_ret
    exact ⟨_, rfl, hown, hb1⟩
end Go.Proofs.YtacldkanfjaiiaaGreatDoor
