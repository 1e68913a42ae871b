/- ref1.Flows, ref1.May. -/
import Derived.Test.YtacldkanfjaiiaaGreatDoorA
namespace Go.Proofs.YtacldkanfjaiiaaGreatDoor
open Go.RowKit
set_option maxRecDepth 100000

/-- each of the first is one of the second -/
def flowsB (a b : List Nat) : Bool := a.all fun t => hasB b t
theorem flowsB_false {a b : List Nat} {k : Nat} (hk : k < a.length) (h : hasB b (tg a k) = false) : flowsB a b = false := by
  unfold flowsB
  rw [Bool.eq_false_iff]
  intro hc
  have := List.all_eq_true.1 hc _ (tg_mem hk)
  rw [h] at this; cases this
theorem flowsB_true {a b : List Nat} (h : ∀ j, j < a.length → hasB b (tg a j) = true) : flowsB a b = true := by
  unfold flowsB
  rw [List.all_eq_true]
  intro x hx
  obtain ⟨j, hj, rfl⟩ := tg_of hx
  exact h j hj

set_option maxHeartbeats 400000 in
theorem refFlows_any (A : Option Addr) (n c : Nat) (ts : List Nat) (A' : Option Addr) (n' c' : Nat) (ts' : List Nat) (w : World) (B : Nat) (h : Sl w B 1 A n (Us ts)) (h' : Sl w B 1 A' n' (Us ts')) :
    Calls Tryz.prog 7 #[.slice A n c, .slice A' n' c'] w fun e w' => e = .returned (.bool (flowsB ts ts')) ∧ w = w' := by
  have hn := h.2.1
  have hlen' : n ≤ ts.length := by rw [h.len1]; omega
  have hlen : ts.length ≤ n := by rw [h.len1]; omega
  go_enter Tryz.func7, Tryz.ntmps7
  go_wp2
  go_loop [5] (fun i => ∃ k : Nat, k ≤ n ∧ i = .int .i64 k ∧ ∀ j, j < k → hasB ts' (tg ts j) = true) (fun i => n - (intOf i).toNat)
  case atStart => exact ⟨0, Nat.zero_le _, rfl, fun j hj => absurd hj (by omega)⟩
  case round =>
    obtain ⟨k, hk, rfl, hall⟩ := hrel
    have H := Lib.hid hall
    clear hall
    by_cases hlt : k < n
    · obtain ⟨b, off, rfl, hb, hc, hl⟩ := h.tag hlt
      cases hh : hasB ts' (tg ts k)
      · have hm := Lib.hid (flowsB_false hl hh)
        go_wp2_with (go_at_call 13; refine (in_any A' n' c' ts' (tg ts k) _ B h').mono ?_; rintro e w' ⟨rfl, rfl⟩)
        go_ret
        exact ⟨ret_bool hm.out.symm, rfl⟩
      · have HH := Lib.hid hh
        go_wp2_with (go_at_call 13; refine (in_any A' n' c' ts' (tg ts k) _ B h').mono ?_; rintro e w' ⟨rfl, rfl⟩)
        go_round
        case rel =>
          refine ⟨k + 1, by omega, by go_num, fun j hj => ?_⟩
          rcases Nat.lt_or_ge j k with h1 | h1
          · exact H.out j h1
          · have : j = k := by omega
            subst this; exact HH.out
        case measure => simp [intOf]; omega
    · have hm := Lib.hid (flowsB_true (a := ts) (b := ts') fun j hj => H.out j (by omega))
      go_wp2
      go_ret
      exact ⟨ret_bool hm.out.symm, rfl⟩

/-- do numbers rise? -/
def risesB (l : List Nat) : Bool := (List.range (l.length - 1)).all fun j => decide (tg l j < tg l (j + 1))
theorem risesB_iff {l : List Nat} : risesB l = true ↔ ∀ j, j + 1 < l.length → tg l j < tg l (j + 1) := by
  simp only [risesB, List.all_eq_true, List.mem_range, decide_eq_true_eq]
  exact ⟨fun h j hj => h j (by omega), fun h j hj => h j (by omega)⟩
theorem risesB_false {l : List Nat} {k : Nat} (hk : k + 1 < l.length) (h : ¬ tg l k < tg l (k + 1)) : risesB l = false := by
  rw [Bool.eq_false_iff]; exact fun hc => h (risesB_iff.1 hc k hk)
def mayB (l : List Nat) : Bool := risesB l && decide (l.length ≤ 8)
theorem mayB_false {l : List Nat} {k : Nat} (hk : k + 1 < l.length) (h : ¬ tg l k < tg l (k + 1)) : mayB l = false := by
  simp [mayB, risesB_false hk h]
theorem mayB_true {l : List Nat} (h : ∀ j, j + 1 < l.length → tg l j < tg l (j + 1)) : mayB l = decide (l.length ≤ 8) := by
  simp [mayB, risesB_iff.2 h]

set_option maxHeartbeats 400000 in
theorem refMay_any (A : Option Addr) (n c : Nat) (ts : List Nat) (w : World) (B : Nat) (h : Sl w B 1 A n (Us ts)) :
    Calls Tryz.prog 5 #[.slice A n c] w fun e w' => e = .returned (.bool (mayB ts)) ∧ ∃ d, w' = w.drewN d := by
  have hn := h.2.1
  have hlen' : n ≤ ts.length := by rw [h.len1]; omega
  have hlen : ts.length ≤ n := by rw [h.len1]; omega
  go_enter Tryz.func5, Tryz.ntmps5
  go_wp2
  go_loopw [3] (fun i wr => (∃ d, wr = w.drewN d) ∧ ∃ m : Nat, (m ≤ n) ∧ i = .int .i64 ((m : Int) + 1) ∧ ∀ j, j + 1 < m + 1 → tg ts j < tg ts (j + 1)) (fun i _ => n + 1 - (intOf i).toNat)
  case atStart => exact ⟨⟨0, rfl⟩, 0, by omega, rfl, fun j hj => absurd hj (by omega)⟩
  case round =>
    obtain ⟨⟨d, rfl⟩, m, hm, rfl, hall⟩ := hrel
    have H := Lib.hid hall
    clear hall
    by_cases hlt : m + 1 < n
    · obtain ⟨b, off, rfl, hb, hc, hl⟩ := h.tag hlt
      obtain ⟨b', off', e, hb', hc', hl'⟩ := h.tag (k := m) (by omega)
      injection e with e; injection e with e1 e2; subst e1 e2
      by_cases hr : tg ts m < tg ts (m + 1)
      · have hb1 : decide (((tg ts (m + 1) : Nat) : Int) ≤ ((tg ts m : Nat) : Int)) = false := by simpa using hr
        go_wp2
        go_quiet (fail)
        go_wp2
        go_roundw
        case rel =>
          refine ⟨⟨_, rfl⟩, m + 1, by omega, by go_num, fun j hj => ?_⟩
          rcases Nat.lt_or_ge j m with h1 | h1
          · exact H.out j (by omega)
          · have : j = m := by omega
            subst this; exact hr
        case measure => simp [intOf]; omega
      · have hm := Lib.hid (mayB_false (l := ts) (k := m) (by omega) hr)
        have hb1 : decide (((tg ts (m + 1) : Nat) : Int) ≤ ((tg ts m : Nat) : Int)) = true := by simp; omega
        go_wp2
        go_quiet (fail)
        go_wp2
        go_ret
        exact ⟨ret_bool hm.out.symm, _, World.drewN_drewN _ _ _⟩
    · have hm := Lib.hid (mayB_true (l := ts) fun j hj => H.out j (by omega))
      go_wp2
      go_ret
      refine ⟨ret_bool ?_, _, rfl⟩
      rw [hm.out]
      simp; omega
end Go.Proofs.YtacldkanfjaiiaaGreatDoor
