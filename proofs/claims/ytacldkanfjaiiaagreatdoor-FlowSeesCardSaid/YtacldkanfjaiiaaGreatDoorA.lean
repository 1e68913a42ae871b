/- ref1.in. -/
import Derived.Test.YtacldkanfjaiiaaGreatDoorW
namespace Go.Proofs.YtacldkanfjaiiaaGreatDoor
open Go.RowKit
set_option maxRecDepth 100000

set_option maxHeartbeats 400000 in
theorem in_any (A : Option Addr) (n c : Nat) (ts : List Nat) (t : Nat) (w : World) (B : Nat) (h : Sl w B 1 A n (Us ts)) :
    Calls Tryz.prog 13 #[.slice A n c, .int .u16 (t : Int)] w fun e w' => e = .returned (.bool (hasB ts t)) ∧ w = w' := by
  have hn := h.2.1
  have hlen : ts.length ≤ n := by rw [h.len1]; omega
  have hlen' : n ≤ ts.length := by rw [h.len1]; omega
  go_enter Tryz.func13, Tryz.ntmps13
  go_wp2
  go_loop [5] (fun i => ∃ k : Nat, k ≤ n ∧ i = .int .i64 k ∧ ∀ j, j < k → tg ts j ≠ t) (fun i => n - (intOf i).toNat)
  case atStart => exact ⟨0, Nat.zero_le _, rfl, fun j hj => absurd hj (by omega)⟩
  case round =>
    obtain ⟨k, hk, rfl, hnot⟩ := hrel
    have H := Lib.hid hnot
    clear hnot
    by_cases hlt : k < n
    · obtain ⟨b, off, rfl, hb, hc, hl⟩ := h.tag hlt
      by_cases he : tg ts k = t
      · have hm := Lib.hid (hasB_true (he ▸ tg_mem hl))
        have heq : (((tg ts k : Nat) : Int) == (t : Int)) = true := beq_iff_eq.2 (by omega)
        clear he
        go_wp2
        go_ret
        exact ⟨ret_bool hm.out.symm, rfl⟩
      · have heq : (((tg ts k : Nat) : Int) == (t : Int)) = false := beq_eq_false_iff_ne.2 (by omega)
        go_wp2
        go_round
        case rel =>
          refine ⟨k + 1, by omega, by go_num, fun j hj => ?_⟩
          rcases Nat.lt_or_ge j k with h1 | h1
          · exact H.out j h1
          · have : j = k := by omega
            subst this; exact he
        case measure => simp [intOf]; omega
    · have hm := Lib.hid (hasB_false (t := t) (ts := ts) fun hc => by
        obtain ⟨j, hj, e⟩ := tg_of hc
        exact H.out j (by omega) e)
      go_wp2
      go_ret
      exact ⟨ret_bool hm.out.symm, rfl⟩
end Go.Proofs.YtacldkanfjaiiaaGreatDoor
