/- label.Minus, label.Flows. -/
import Derived.Test.YtacldkanfjaiiaaGreatDoorB
import Derived.Test.YtacldkanfjaiiaaGreatDoorL
namespace Go.Proofs.YtacldkanfjaiiaaGreatDoor
open Go.RowKit
set_option maxRecDepth 100000

theorem T_tags : SliceTy Tryz.prog 22 39 1 2 := SliceTy.mk' (z := .int .u16 0) Tryz.underlying22 (by kernel_rfl) rfl (by omega)

set_option maxHeartbeats 400000 in
/-- slices.Index at labels: not below 0 just if the tag is there -/
theorem index_any (A : Option Addr) (n c : Nat) (ts : List Nat) (t : Nat) (w : World) (B : Nat) (h : Sl w B 1 A n (Us ts)) :
    Calls Tryz.prog 52 #[.slice A n c, .int .u16 (t : Int)] w fun e w' => (∃ i : Int, e = .returned (.int .i64 i) ∧ decide (0 ≤ i) = hasB ts t) ∧ w = w' := by
  have hn := h.2.1
  have hlen : ts.length ≤ n := by rw [h.len1]; omega
  have hlen' : n ≤ ts.length := by rw [h.len1]; omega
  go_enter Tryz.func52, Tryz.ntmps52
  go_wp2
  go_loop [8] (fun i => ∃ k : Nat, k ≤ n ∧ i = .int .i64 k ∧ ∀ j, j < k → tg ts j ≠ t) (fun i => n - (intOf i).toNat)
  case atStart => exact ⟨0, Nat.zero_le _, rfl, fun j hj => absurd hj (by omega)⟩
  case round =>
    obtain ⟨k, hk, rfl, hnot⟩ := hrel
    have H := Lib.hid hnot
    clear hnot
    by_cases hlt : k < n
    · obtain ⟨b, off, rfl, hb, hc, hl⟩ := h.tag hlt
      by_cases he : tg ts k = t
      · have hm := Lib.hid (hasB_true (he ▸ tg_mem hl))
        have heq : ((t : Int) == ((tg ts k : Nat) : Int)) = true := beq_iff_eq.2 (by omega)
        clear he
        go_wp2
        go_ret
        exact ⟨⟨k, rfl, by rw [hm.out]; simp⟩, rfl⟩
      · have heq : ((t : Int) == ((tg ts k : Nat) : Int)) = false := beq_eq_false_iff_ne.2 (by omega)
        go_wp2
        go_round
        case rel =>
          refine ⟨k + 1, by omega, by go_num, fun j hj => ?_⟩
          rcases Nat.lt_or_ge j k with h1 | h1
          · exact H.out j h1
          · have : j = k := by omega
            subst this; exact he
        case measure => simp [intOf]; omega
    · have hm := Lib.hid (hasB_false (t := t) (ts := ts) fun hc => by
        obtain ⟨j, hj, e⟩ := tg_of hc
        exact H.out j (by omega) e)
      go_wp2
      go_ret
      exact ⟨⟨-1, rfl, by rw [hm.out]; simp⟩, rfl⟩

set_option maxHeartbeats 400000 in
theorem contains_any (A : Option Addr) (n c : Nat) (ts : List Nat) (t : Nat) (w : World) (B : Nat) (h : Sl w B 1 A n (Us ts)) :
    Calls Tryz.prog 35 #[.slice A n c, .int .u16 (t : Int)] w fun e w' => e = .returned (.bool (hasB ts t)) ∧ w = w' := by
  go_enter Tryz.func35, Tryz.ntmps35
  go_wp2_with fail
  refine (index_any A n c ts t _ B h).mono ?_
  rintro e w' ⟨⟨i, rfl, hi⟩, rfl⟩
  have HI := Lib.hid hi
  clear hi
  go_wp2
  go_ret
  exact ⟨ret_bool HI.out, rfl⟩

set_option maxHeartbeats 400000 in
theorem minusFn_any (A : Option Addr) (n c : Nat) (ts : List Nat) (t g : Nat) (w : World) (B : Nat) (h : Sl w B 1 A n (Us ts)) (hg : w.cell? ⟨g, 0, none⟩ = some (.slice A n c)) :
    Calls Tryz.prog 34 #[.int .u16 (t : Int), .pointer (some ⟨g, 0, none⟩)] w fun e w' => e = .returned (.bool (!hasB ts t)) ∧ w = w' := by
  go_enter Tryz.func34, Tryz.ntmps34
  go_wp2_with fail
  refine (contains_any A n c ts t _ B h).mono ?_
  rintro e w' ⟨rfl, rfl⟩
  go_wp2
  go_ret
  exact ⟨rfl, rfl⟩

/-- those of the first that are none of the second -/
def minusL (a b : List Nat) : List Nat := a.filter fun t => !hasB b t
def minusTo (a b : List Nat) (k : Nat) : List Nat := minusL (a.take k) b
theorem minusTo_zero (a b : List Nat) : minusTo a b 0 = [] := by simp [minusTo, minusL]
theorem minusTo_all {a b : List Nat} {k : Nat} (h : a.length ≤ k) : minusTo a b k = minusL a b := by simp [minusTo, List.take_of_length_le h]
theorem minusTo_yes {a b : List Nat} {k : Nat} (hk : k < a.length) (h : hasB b (tg a k) = false) : minusTo a b (k + 1) = minusTo a b k ++ [tg a k] := by
  have e : tg a k = a[k] := by simp [tg, List.getD_eq_getElem?_getD, hk]
  rw [e] at h ⊢
  unfold minusTo minusL
  rw [List.take_succ_eq_append_getElem hk, List.filter_append]
  congr 1
  simp [h]
theorem minusTo_no {a b : List Nat} {k : Nat} (hk : k < a.length) (h : hasB b (tg a k) = true) : minusTo a b (k + 1) = minusTo a b k := by
  have e : tg a k = a[k] := by simp [tg, List.getD_eq_getElem?_getD, hk]
  rw [e] at h
  unfold minusTo minusL
  rw [List.take_succ_eq_append_getElem hk, List.filter_append]
  simp [h]
theorem minusTo_le (a b : List Nat) (k : Nat) : (minusTo a b k).length ≤ k := by
  unfold minusTo minusL
  exact Nat.le_trans (List.length_filter_le _ _) (List.length_take_le _ _)
theorem Us_append (a : List Nat) (t : Nat) : Us (a ++ [t]) = Us a ++ [.int .u16 (t : Int)] := by simp [Us, U]

set_option maxHeartbeats 800000 in
theorem thoseMinus_any (A : Option Addr) (n c : Nat) (ts : List Nat) (A' : Option Addr) (n' c' : Nat) (ts' : List Nat) (g : Nat) (w : World) (B : Nat) (hB : B ≤ w.heap.size) (h : Sl w B 1 A n (Us ts)) (h' : Sl w B 1 A' n' (Us ts')) (hn6 : n ≤ 65536)
    (hg : w.cell? ⟨g, 0, none⟩ = some (.slice A' n' c')) (hgs : g < w.heap.size) :
    Calls Tryz.prog 33 #[.slice A n c, .func (.func 34) #[] #[.pointer (some ⟨g, 0, none⟩)]] w fun e w' =>
      ∃ v, e = .returned v ∧ w'.ownsRow w.heap.size 39 1 v (minusL ts ts').length (Us (minusL ts ts')) ∧ Below w.heap.size w w' := by
  have hlen : ts.length ≤ n := by rw [h.len1]; omega
  have hlen' : n ≤ ts.length := by rw [h.len1]; omega
  go_enter Tryz.func33, Tryz.ntmps33
  go_wp2
  go_loopw [5, 10] (fun v i wr => ∃ k : Nat, k ≤ n ∧ i = .int .i64 k ∧ wr.ownsRow w.heap.size 39 1 v (minusTo ts ts' k).length (Us (minusTo ts ts' k)) ∧ Below w.heap.size w wr) (fun _ i _ => n - (intOf i).toNat)
  case atStart => exact ⟨0, Nat.zero_le _, rfl, by rw [minusTo_zero]; exact World.ownsRow_nil _ _ _ _, Below.refl _ _⟩
  case round =>
    obtain ⟨k, hk, rfl, hown, hnx⟩ := hrel
    by_cases hlt : k < n
    · have hr := h.below (hnx.mono hB)
      have hr' := h'.below (hnx.mono hB)
      obtain ⟨b, off, rfl, hb, hc, hl⟩ := hr.tag hlt
      have hgr := (hnx.cell (p := ⟨g, 0, none⟩) hgs).trans hg
      have hle := minusTo_le ts ts' k
      have hsz := hnx.size
      cases hh : hasB ts' (tg ts k)
      · have HH := Lib.hid hh
        go_wp2_with (first
          | (go_at_call 34; refine (minusFn_any A' n' c' ts' (tg ts k) g _ B hr' hgr).mono ?_; rintro e w' ⟨rfl, rfl⟩)
          | (at_builtin; refine wpList_push T_tags rfl (.tmp 17) (.tmp 19) rfl rfl rfl hown ?c1 ?c2 ?c3 ?c4 ?c5 ?_))
        case c1 => rfl
        case c2 => rfl
        case c3 => omega
        case c4 => unfold maxLen; omega
        case c5 => omega
        intro v' w1 hown1 hb1 hs1
        have hown2 : w1.ownsRow w.heap.size 39 1 v' (minusTo ts ts' (k + 1)).length (Us (minusTo ts ts' (k + 1))) := by
          rw [minusTo_yes hl HH.out, Us_append, List.length_append]; exact hown1
        have hb2 := hnx.trans hb1
        clear hown1 hb1 hown
        go_wp2
        go_roundw
        case rel => exact ⟨k + 1, by omega, by go_num, hown2, hb2⟩
        case measure => simp [intOf]; omega
      · have HH := Lib.hid hh
        go_wp2_with (first
          | (go_at_call 34; refine (minusFn_any A' n' c' ts' (tg ts k) g _ B hr' hgr).mono ?_; rintro e w' ⟨rfl, rfl⟩))
        go_roundw
        case rel => exact ⟨k + 1, by omega, by go_num, by rw [minusTo_no hl HH.out]; exact hown, hnx⟩
        case measure => simp [intOf]; omega
    · have he := minusTo_all (b := ts') (show ts.length ≤ k by omega)
      rw [he] at hown
      go_wp2
      go_ret
      exact ⟨_, rfl, hown, hnx⟩

set_option maxHeartbeats 400000 in
theorem minus_any (A : Option Addr) (n c : Nat) (ts : List Nat) (A' : Option Addr) (n' c' : Nat) (ts' : List Nat) (w : World) (B : Nat) (hB : B ≤ w.heap.size) (h : Sl w B 1 A n (Us ts)) (h' : Sl w B 1 A' n' (Us ts')) (hn6 : n ≤ 65536) :
    Calls Tryz.prog 22 #[.slice A n c, .slice A' n' c'] w fun e w' =>
      ∃ v, e = .returned v ∧ w'.ownsRow w.heap.size 39 1 v (minusL ts ts').length (Us (minusL ts ts')) ∧ Below w.heap.size w w' := by
  have hmf : ∀ (fn : Fn) (first cap : Array Value) (w : World), (Instr.makeFunc fn first cap).run Tryz.prog w = .ok (.func fn first cap) w := fun _ _ _ _ => rfl
  go_enter Tryz.func22, Tryz.ntmps22
  go_wp2_with fail
  refine (thoseMinus_any A n c ts A' n' c' ts' w.heap.size _ B (by simp; omega) (h.alloc hB _) (h'.alloc hB _) hn6 ?_ (by simp)).mono ?_
  · rw [World.cell?_alloc_at _ _ _ _ rfl]; rfl
  rintro e w' ⟨v, rfl, hown, hb⟩
  have hown1 := own_mono (base' := w.heap.size) hown (by simp)
  have hb1 := (below_alloc w _).trans (hb.mono (by simp))
  clear hown hb
  go_wp2
  go_ret
  exact ⟨_, rfl, hown1, hb1⟩

theorem minusL_nil {a b : List Nat} : decide (((minusL a b).length : Int) = 0) = flowsB a b := by
  unfold minusL flowsB
  induction a with
  | nil => rfl
  | cons x l ih =>
    cases hx : hasB b x
    · simp only [List.filter_cons, hx, List.all_cons, Bool.not_false, if_true, List.length_cons, Bool.false_and]
      rw [decide_eq_false_iff_not]; omega
    · simp only [List.filter_cons, hx, List.all_cons, Bool.not_true, Bool.true_and]
      exact ih

set_option maxHeartbeats 400000 in
theorem flows_any (A : Option Addr) (n c : Nat) (ts : List Nat) (A' : Option Addr) (n' c' : Nat) (ts' : List Nat) (w : World) (B : Nat) (hB : B ≤ w.heap.size) (h : Sl w B 1 A n (Us ts)) (h' : Sl w B 1 A' n' (Us ts')) (hn6 : n ≤ 65536) :
    Calls Tryz.prog 12 #[.slice A n c, .slice A' n' c'] w fun e w' => e = .returned (.bool (flowsB ts ts')) ∧ Below w.heap.size w w' := by
  go_enter Tryz.func12, Tryz.ntmps12
  go_wp2_with fail
  refine (minus_any A n c ts A' n' c' ts' _ B hB h h' hn6).mono ?_
  rintro e w' ⟨v, rfl, hown, hb⟩
  have hle := minusTo_le ts ts' ts.length
  rw [minusTo_all (Nat.le_refl _)] at hle
  have hl1 := h.len1
  obtain ⟨A1, c1, rfl, _, _⟩ := own_sl hown (by omega)
  have hm := Lib.hid (minusL_nil (a := ts) (b := ts'))
  clear hown
  go_wp2
  go_ret
  refine ⟨ret_bool ?_, hb⟩
  rw [← hm.out]
  rfl
end Go.Proofs.YtacldkanfjaiiaaGreatDoor
