/- Sees, Seen. -/
import Derived.Test.YtacldkanfjaiiaaGreatDoorD
namespace Go.Proofs.YtacldkanfjaiiaaGreatDoor
open Go.RowKit
set_option maxRecDepth 100000

set_option maxHeartbeats 400000 in
theorem sees_any (r : Rp) (A : Option Addr) (n c : Nat) (ts : List Nat) (w : World) (B : Nat) (hB : B ≤ w.heap.size) (h : Sl w B 1 A n (Us ts)) (hr : r.Ok w B) (hl : r.ln ≤ 65536) :
    Calls Tryz.prog 6 #[.slice A n c, .agg #[.int .i64 r.s, .slice r.lA r.ln r.lc, .int .i64 r.err, .int .i64 r.pos, .slice r.rA r.rn r.rc, .int .i64 r.cnt, .int .u64 r.wrote]] w fun e w' => e = .returned (.bool (flowsB r.lab ts)) ∧ Below w.heap.size w w' := by
  go_enter Tryz.func6, Tryz.ntmps6
  go_wp2_with fail
  refine (flows_any r.lA r.ln r.lc r.lab A n c ts _ B (by simp; omega) (hr.lab.alloc hB _) (h.alloc hB _) hl).mono ?_
  rintro e w1 ⟨rfl, hb⟩
  have hb1 := (below_alloc w _).trans (hb.mono (by simp))
  clear hb
  go_wp2
  go_ret
  exact ⟨rfl, hb1⟩

set_option maxHeartbeats 400000 in
theorem seenFn_any (r : Rp) (A : Option Addr) (n c : Nat) (ts : List Nat) (g : Nat) (w : World) (B : Nat) (hB : B ≤ w.heap.size) (h : Sl w B 1 A n (Us ts)) (hg : w.cell? ⟨g, 0, none⟩ = some (.slice A n c)) (hgs : g < w.heap.size) (hr : r.Ok w B) (hl : r.ln ≤ 65536) :
    Calls Tryz.prog 16 #[.agg #[.int .i64 r.s, .slice r.lA r.ln r.lc, .int .i64 r.err, .int .i64 r.pos, .slice r.rA r.rn r.rc, .int .i64 r.cnt, .int .u64 r.wrote], .pointer (some ⟨g, 0, none⟩)] w fun e w' => e = .returned (.bool (flowsB r.lab ts)) ∧ Below w.heap.size w w' := by
  have hg1 : ∀ o, (w.alloc o).cell? ⟨g, 0, none⟩ = some (.slice A n c) := fun o => (World.cell?_alloc_lt w o ⟨g, 0, none⟩ hgs).trans hg
  go_enter Tryz.func16, Tryz.ntmps16
  go_wp2_with fail
  refine (sees_any r A n c ts _ B (by simp; omega) (h.alloc hB _) ⟨hr.lab.alloc hB _, hr.rows.alloc hB _, fun x hx => (hr.each x hx).alloc hB _⟩ hl).mono ?_
  rintro e w1 ⟨rfl, hb⟩
  have hb1 := (below_alloc w _).trans (hb.mono (by simp))
  clear hb
  go_wp2
  go_ret
  exact ⟨rfl, hb1⟩

/-- the replies that a label sees -/
def seenL (ts : List Nat) (rs : List Rp) : List Rp := rs.filter fun r => flowsB r.lab ts
def seenTo (ts : List Nat) (rs : List Rp) (k : Nat) : List Rp := seenL ts (rs.take k)
theorem seenTo_zero (ts : List Nat) (rs : List Rp) : seenTo ts rs 0 = [] := by simp [seenTo, seenL]
theorem seenTo_all {ts : List Nat} {rs : List Rp} {k : Nat} (h : rs.length ≤ k) : seenTo ts rs k = seenL ts rs := by simp [seenTo, List.take_of_length_le h]
theorem seenTo_yes {ts : List Nat} {rs : List Rp} {k : Nat} {a : Rp} (hk : rs[k]? = some a) (h : flowsB a.lab ts = true) : seenTo ts rs (k + 1) = seenTo ts rs k ++ [a] := by
  unfold seenTo seenL
  rw [take_next hk, List.filter_append]
  congr 1
  simp [h]
theorem seenTo_no {ts : List Nat} {rs : List Rp} {k : Nat} {a : Rp} (hk : rs[k]? = some a) (h : flowsB a.lab ts = false) : seenTo ts rs (k + 1) = seenTo ts rs k := by
  unfold seenTo seenL
  rw [take_next hk, List.filter_append]
  simp [h]
theorem seenTo_le (ts : List Nat) (rs : List Rp) (k : Nat) : (seenTo ts rs k).length ≤ k := by
  unfold seenTo seenL
  exact Nat.le_trans (List.length_filter_le _ _) (List.length_take_le _ _)
set_option maxHeartbeats 1000000 in
theorem thoseSeen_any (A : Option Addr) (n c : Nat) (rs : List Rp) (A' : Option Addr) (n' c' : Nat) (ts : List Nat) (g : Nat) (w : World) (B : Nat) (hB : B ≤ w.heap.size) (h : Sl w B 7 A n (rs.flatMap Rp.cells)) (h' : Sl w B 1 A' n' (Us ts)) (hn6 : n ≤ 65536)
    (hg : w.cell? ⟨g, 0, none⟩ = some (.slice A' n' c')) (hgs : g < w.heap.size) (hr : ∀ r ∈ rs, r.Ok w B ∧ r.ln ≤ 65536) :
    Calls Tryz.prog 15 #[.slice A n c, .func (.func 16) #[] #[.pointer (some ⟨g, 0, none⟩)]] w fun e w' =>
      ∃ v, e = .returned v ∧ w'.ownsRow w.heap.size 31 7 v (seenL ts rs).length ((seenL ts rs).flatMap Rp.cells) ∧ Below w.heap.size w w' := by
  have HR := Lib.hid hr
  clear hr
  have hlen : rs.length = n := by
    have := h.1; rw [flat_len Rp.cells 7 (fun _ => rfl)] at this; omega
  have HL := Lib.hid hlen
  clear hlen
  go_enter Tryz.func15, Tryz.ntmps15
  go_wp2
  go_loopw [5, 10] (fun v i wr => ∃ k : Nat, k ≤ n ∧ i = .int .i64 k ∧ wr.ownsRow w.heap.size 31 7 v (seenTo ts rs k).length ((seenTo ts rs k).flatMap Rp.cells) ∧ Below w.heap.size w wr) (fun _ i _ => n - (intOf i).toNat)
  case atStart => exact ⟨0, Nat.zero_le _, rfl, by rw [seenTo_zero]; exact World.ownsRow_nil _ _ _ _, Below.refl _ _⟩
  case round =>
    obtain ⟨k, hk, rfl, hown, hnx⟩ := hrel
    by_cases hlt : k < n
    · obtain ⟨b, off, a, rfl, hb, ha, hc⟩ := Sl.elem (f := Rp.cells) (m := 7) (fun _ => rfl) (by omega) (h.below (hnx.mono hB)) hlt
      have hr' := h'.below (hnx.mono hB)
      have hgr := (hnx.cell (p := ⟨g, 0, none⟩) hgs).trans hg
      have hle := seenTo_le ts rs k
      have hsz := hnx.size
      have hok := Lib.hid ((HR.out a (List.mem_of_getElem? ha)).1.below (hnx.mono hB))
      have hl6 := (HR.out a (List.mem_of_getElem? ha)).2
      have f0 : wr.cell? ⟨b, off + k * 7, none⟩ = some (.int .i64 a.s) := hc 0 (by omega)
      have f1 : wr.cell? ⟨b, off + k * 7 + 1, none⟩ = some (.slice a.lA a.ln a.lc) := hc 1 (by omega)
      have f2 : wr.cell? ⟨b, off + k * 7 + 2, none⟩ = some (.int .i64 a.err) := hc 2 (by omega)
      have f3 : wr.cell? ⟨b, off + k * 7 + 3, none⟩ = some (.int .i64 a.pos) := hc 3 (by omega)
      have f4 : wr.cell? ⟨b, off + k * 7 + 4, none⟩ = some (.slice a.rA a.rn a.rc) := hc 4 (by omega)
      have f5 : wr.cell? ⟨b, off + k * 7 + 5, none⟩ = some (.int .i64 a.cnt) := hc 5 (by omega)
      have f6 : wr.cell? ⟨b, off + k * 7 + 6, none⟩ = some (.int .u64 a.wrote) := hc 6 (by omega)
      have HA := Lib.hid ha
      clear hc ha
      have hgW : ∀ o, (wr.alloc o).cell? ⟨g, 0, none⟩ = some (.slice A' n' c') := fun o => (World.cell?_alloc_lt wr o ⟨g, 0, none⟩ (by exact Nat.lt_of_lt_of_le hgs hsz)).trans hgr
      cases hs : flowsB a.lab ts
      · have HS := Lib.hid hs
        go_wp2_with fail
        refine (seenFn_any a A' n' c' ts g _ B (by simp; omega) (hr'.alloc (by omega) _) (hgW _) (by simp; omega) ⟨hok.out.lab.alloc (by omega) _, hok.out.rows.alloc (by omega) _, fun x hx => (hok.out.each x hx).alloc (by omega) _⟩ hl6).mono ?_
        rintro e w1 ⟨rfl, hb1⟩
        have hb2 := hnx.trans ((below_alloc wr _).trans (hb1.mono (by simp)) |>.mono hsz)
        have hown2 : w1.ownsRow w.heap.size 31 7 u5 (seenTo ts rs (k + 1)).length ((seenTo ts rs (k + 1)).flatMap Rp.cells) := by
          rw [seenTo_no HA.out HS.out]
          exact own_below (hown.alloc _) hb1
        clear hb1 hown
        rw [HS.out]
        go_wp2
        go_roundw
        case rel => exact ⟨k + 1, by omega, by go_num, hown2, hb2⟩
        case measure => simp [intOf]; omega
      · have HS := Lib.hid hs
        go_wp2_with fail
        refine (seenFn_any a A' n' c' ts g _ B (by simp; omega) (hr'.alloc (by omega) _) (hgW _) (by simp; omega) ⟨hok.out.lab.alloc (by omega) _, hok.out.rows.alloc (by omega) _, fun x hx => (hok.out.each x hx).alloc (by omega) _⟩ hl6).mono ?_
        rintro e w1 ⟨rfl, hb1⟩
        have hb2 := hnx.trans ((below_alloc wr _).trans (hb1.mono (by simp)) |>.mono hsz)
        have hown1 := own_below (hown.alloc _) hb1
        have x0 := new_cell hb1 0
        have x1 := new_cell hb1 1
        have x2 := new_cell hb1 2
        have x3 := new_cell hb1 3
        have x4 := new_cell hb1 4
        have x5 := new_cell hb1 5
        have x6 := new_cell hb1 6
        simp only [List.getElem?_toArray, List.getElem?_cons_zero, List.getElem?_cons_succ] at x0 x1 x2 x3 x4 x5 x6
        have hsz1 := hb2.size
        clear hb1 hown
        rw [HS.out]
        go_wp2_with (at_builtin; refine wpList_push T_replies rfl (.tmp 17) (.tmp 19) rfl rfl rfl hown1 ?c1 ?c2 ?c3 ?c4 ?c5 ?_)
        case c1 => rfl
        case c2 => exact ⟨rfl, rfl, rfl, rfl, rfl, rfl, rfl⟩
        case c3 => omega
        case c4 => unfold maxLen; omega
        case c5 => omega
        intro v' w2 hown2 hb3 _
        have hown3 : w2.ownsRow w.heap.size 31 7 v' (seenTo ts rs (k + 1)).length ((seenTo ts rs (k + 1)).flatMap Rp.cells) := by
          rw [seenTo_yes HA.out HS.out, flat_append, List.length_append]; exact hown2
        have hb4 := hb2.trans hb3
        clear hown1 hown2 hb3 hb2
        go_wp2
        go_roundw
        case rel => exact ⟨k + 1, by omega, by go_num, hown3, hb4⟩
        case measure => simp [intOf]; omega
    · have he := seenTo_all (ts := ts) (show rs.length ≤ k by have := HL.out; omega)
      rw [he] at hown
      go_wp2
      go_ret
      exact ⟨_, rfl, hown, hnx⟩

set_option maxHeartbeats 400000 in
theorem seen_any (A : Option Addr) (n c : Nat) (rs : List Rp) (A' : Option Addr) (n' c' : Nat) (ts : List Nat) (w : World) (B : Nat) (hB : B ≤ w.heap.size) (h : Sl w B 7 A n (rs.flatMap Rp.cells)) (h' : Sl w B 1 A' n' (Us ts)) (hn6 : n ≤ 65536)
    (hr : ∀ r ∈ rs, r.Ok w B ∧ r.ln ≤ 65536) :
    Calls Tryz.prog 9 #[.slice A' n' c', .slice A n c] w fun e w' =>
      ∃ v, e = .returned v ∧ w'.ownsRow w.heap.size 31 7 v (seenL ts rs).length ((seenL ts rs).flatMap Rp.cells) ∧ Below w.heap.size w w' := by
  have hmf : ∀ (fn : Fn) (first cap : Array Value) (w : World), (Instr.makeFunc fn first cap).run Tryz.prog w = .ok (.func fn first cap) w := fun _ _ _ _ => rfl
  have HR := Lib.hid hr
  clear hr
  go_enter Tryz.func9, Tryz.ntmps9
  go_wp2_with fail
  refine (thoseSeen_any A n c rs A' n' c' ts w.heap.size _ B (by simp; omega) (h.alloc hB _) (h'.alloc hB _) hn6 ?_ (by simp)
    (fun r hr => ⟨⟨(HR.out r hr).1.lab.alloc hB _, (HR.out r hr).1.rows.alloc hB _, fun x hx => ((HR.out r hr).1.each x hx).alloc hB _⟩, (HR.out r hr).2⟩)).mono ?_
  · rw [World.cell?_alloc_at _ _ _ _ rfl]; rfl
  rintro e w' ⟨v, rfl, hown, hb⟩
  have hown1 := own_mono (base' := w.heap.size) hown (by simp)
  have hb1 := (below_alloc w _).trans (hb.mono (by simp))
  clear hown hb
  go_wp2
  go_ret
  exact ⟨_, rfl, hown1, hb1⟩

set_option maxHeartbeats 1000000 in
theorem refSeen_any (A : Option Addr) (n c : Nat) (rs : List Rp) (A' : Option Addr) (n' c' : Nat) (ts : List Nat) (w : World) (B : Nat) (hB : B ≤ w.heap.size) (h : Sl w B 7 A n (rs.flatMap Rp.cells)) (h' : Sl w B 1 A' n' (Us ts)) (hn6 : n ≤ 65536)
    (hr : ∀ r ∈ rs, r.Ok w B) :
    Calls Tryz.prog 10 #[.slice A' n' c', .slice A n c] w fun e w' =>
      ∃ v, e = .returned v ∧ w'.ownsRow w.heap.size 31 7 v (seenL ts rs).length ((seenL ts rs).flatMap Rp.cells) ∧ Below w.heap.size w w' := by
  have HR := Lib.hid hr
  clear hr
  have hlen : rs.length = n := by
    have := h.1; rw [flat_len Rp.cells 7 (fun _ => rfl)] at this; omega
  have HL := Lib.hid hlen
  clear hlen
  go_enter Tryz.func10, Tryz.ntmps10
  go_wp2
  go_loopw [5, 6] (fun v i wr => ∃ k : Nat, k ≤ n ∧ i = .int .i64 k ∧ wr.ownsRow w.heap.size 31 7 v (seenTo ts rs k).length ((seenTo ts rs k).flatMap Rp.cells) ∧ Below w.heap.size w wr) (fun _ i _ => n - (intOf i).toNat)
  case atStart => exact ⟨0, Nat.zero_le _, rfl, by rw [seenTo_zero]; exact World.ownsRow_nil _ _ _ _, Below.refl _ _⟩
  case round =>
    obtain ⟨k, hk, rfl, hown, hnx⟩ := hrel
    by_cases hlt : k < n
    · obtain ⟨b, off, a, rfl, hb, ha, hc⟩ := Sl.elem (f := Rp.cells) (m := 7) (fun _ => rfl) (by omega) (h.below (hnx.mono hB)) hlt
      have hr' := h'.below (hnx.mono hB)
      have hle := seenTo_le ts rs k
      have hsz := hnx.size
      have hok := Lib.hid ((HR.out a (List.mem_of_getElem? ha)).below (hnx.mono hB))
      have f0 : wr.cell? ⟨b, off + k * 7, none⟩ = some (.int .i64 a.s) := hc 0 (by omega)
      have f1 : wr.cell? ⟨b, off + k * 7 + 1, none⟩ = some (.slice a.lA a.ln a.lc) := hc 1 (by omega)
      have f2 : wr.cell? ⟨b, off + k * 7 + 2, none⟩ = some (.int .i64 a.err) := hc 2 (by omega)
      have f3 : wr.cell? ⟨b, off + k * 7 + 3, none⟩ = some (.int .i64 a.pos) := hc 3 (by omega)
      have f4 : wr.cell? ⟨b, off + k * 7 + 4, none⟩ = some (.slice a.rA a.rn a.rc) := hc 4 (by omega)
      have f5 : wr.cell? ⟨b, off + k * 7 + 5, none⟩ = some (.int .i64 a.cnt) := hc 5 (by omega)
      have f6 : wr.cell? ⟨b, off + k * 7 + 6, none⟩ = some (.int .u64 a.wrote) := hc 6 (by omega)
      have HA := Lib.hid ha
      clear hc ha
      cases hs : flowsB a.lab ts
      · have HS := Lib.hid hs
        go_wp2_with fail
        refine (refFlows_any a.lA a.ln a.lc a.lab A' n' c' ts _ B hok.out.lab hr').mono ?_
        rintro e w1 ⟨rfl, rfl⟩
        rw [HS.out]
        go_wp2
        go_roundw
        case rel => exact ⟨k + 1, by omega, by go_num, by rw [seenTo_no HA.out HS.out]; exact hown, hnx⟩
        case measure => simp [intOf]; omega
      · have HS := Lib.hid hs
        go_wp2_with fail
        refine (refFlows_any a.lA a.ln a.lc a.lab A' n' c' ts _ B hok.out.lab hr').mono ?_
        rintro e w1 ⟨rfl, rfl⟩
        rw [HS.out]
        go_wp2_with (at_builtin; refine wpList_push T_replies rfl (.tmp 20) (.tmp 25) rfl rfl rfl hown ?c1 ?c2 ?c3 ?c4 ?c5 ?_)
        case c1 => rfl
        case c2 => exact ⟨rfl, rfl, rfl, rfl, rfl, rfl, rfl⟩
        case c3 => omega
        case c4 => unfold maxLen; omega
        case c5 => omega
        intro v' w2 hown2 hb3 _
        have hown3 : w2.ownsRow w.heap.size 31 7 v' (seenTo ts rs (k + 1)).length ((seenTo ts rs (k + 1)).flatMap Rp.cells) := by
          rw [seenTo_yes HA.out HS.out, flat_append, List.length_append]; exact hown2
        have hb4 := hnx.trans hb3
        clear hown hown2 hb3
        go_wp2
        go_roundw
        case rel => exact ⟨k + 1, by omega, by go_num, hown3, hb4⟩
        case measure => simp [intOf]; omega
    · have he := seenTo_all (ts := ts) (show rs.length ≤ k by have := HL.out; omega)
      rw [he] at hown
      go_wp2
      go_ret
      exact ⟨_, rfl, hown, hnx⟩
end Go.Proofs.YtacldkanfjaiiaaGreatDoor
