/- FlowSees: the walk of the law. -/
import Derived.Test.YtacldkanfjaiiaaGreatDoorQ
namespace Go.Proofs.YtacldkanfjaiiaaGreatDoor
open Go.RowKit
set_option maxRecDepth 100000

set_option maxHeartbeats 4000000 in
theorem flowSees_any (A : Option Addr) (n c : Nat) (ts : List Nat) (A' : Option Addr) (n' c' : Nat) (rs : List Rp) (w : World) (B : Nat) (hB : B ≤ w.heap.size) (h : Sl w B 1 A n (Us ts)) (h' : Sl w B 7 A' n' (rs.flatMap Rp.cells)) (hr : ∀ r ∈ rs, r.Ok w B) :
    Calls Tryz.prog 3 #[.slice A n c, .slice A' n' c'] w fun e w' => e = .returned (.bool true) ∧ Below w.heap.size w w' := by
  have HR := Lib.hid hr
  clear hr
  have hn' := h'.2.1
  have HL := Lib.hid (show rs.length = n' by
    have := h'.1; rw [flat_len Rp.cells 7 (fun _ => rfl)] at this; omega)
  go_enter Tryz.func3, Tryz.ntmps3
  go_wp2_with fail
  refine (begun29_any w).mono ?_
  rintro e w1 ⟨rfl, hb⟩
  have hz := hb.size
  go_wp2_with fail
  refine (refMay_any A n c ts w1 B (h.below (hb.mono hB))).mono ?_
  rintro e w2 ⟨rfl, d, rfl⟩
  have hb2 := below_drewN hb d
  cases hm : mayB ts
  · go_wp2
    go_ret
    exact ⟨rfl, hb2⟩
  have HM := Lib.hid hm
  rcases Nat.lt_or_ge 40 n' with h40 | h40
  · have b0 : decide ((40 : Int) < (n' : Int)) = true := by simp; try omega
    go_wp2
    go_ret
    exact ⟨rfl, hb2⟩
  have b0 : decide ((40 : Int) < (n' : Int)) = false := by simp; try omega
  clear hm
  go_wp2
  go_loopw [5] (fun i wr => ∃ k : Nat, k ≤ n' ∧ i = .int .i64 k ∧ Below w.heap.size w wr ∧ ∀ r ∈ rs.take k, r.ln ≤ 65536) (fun i _ => n' - (intOf i).toNat)
  case atStart => exact ⟨0, Nat.zero_le _, rfl, hb2, fun r hr => by simp at hr⟩
  case round =>
    obtain ⟨k, hk, rfl, hnx, hall⟩ := hrel
    have HA := Lib.hid hall
    clear hall
    by_cases hlt : k < n'
    · obtain ⟨b, off, a, rfl, hbb, ha, hc⟩ := Sl.elem (f := Rp.cells) (m := 7) (fun _ => rfl) (by omega) (h'.below (hnx.mono hB)) hlt
      have hsz := hnx.size
      have hok := Lib.hid ((HR.out a (List.mem_of_getElem? ha)).below (hnx.mono hB))
      have f0 : wr.cell? ⟨b, off + k * 7, none⟩ = some (.int .i64 a.s) := hc 0 (by omega)
      have f1 : wr.cell? ⟨b, off + k * 7 + 1, none⟩ = some (.slice a.lA a.ln a.lc) := hc 1 (by omega)
      have f2 : wr.cell? ⟨b, off + k * 7 + 2, none⟩ = some (.int .i64 a.err) := hc 2 (by omega)
      have f3 : wr.cell? ⟨b, off + k * 7 + 3, none⟩ = some (.int .i64 a.pos) := hc 3 (by omega)
      have f4 : wr.cell? ⟨b, off + k * 7 + 4, none⟩ = some (.slice a.rA a.rn a.rc) := hc 4 (by omega)
      have f5 : wr.cell? ⟨b, off + k * 7 + 5, none⟩ = some (.int .i64 a.cnt) := hc 5 (by omega)
      have f6 : wr.cell? ⟨b, off + k * 7 + 6, none⟩ = some (.int .u64 a.wrote) := hc 6 (by omega)
      have HEl := Lib.hid ha
      clear hc ha
      go_wp2_with fail
      refine (refMay_any a.lA a.ln a.lc a.lab wr B hok.out.lab).mono ?_
      rintro e w2 ⟨rfl, d2, rfl⟩
      have hnx2 := below_drewN hnx d2
      cases hm : mayB a.lab
      · go_wp2
        go_ret
        exact ⟨rfl, hnx2⟩
      have hl6 : a.ln ≤ 65536 := by have := mayB_len hm; have := hok.out.lab.len1; omega
      clear hm
      rcases Nat.lt_or_ge 10 a.rn with h10 | h10
      · have b1 : decide ((10 : Int) < (a.rn : Int)) = true := by simp; try omega
        go_wp2
        go_ret
        exact ⟨rfl, hnx2⟩
      have b1 : decide ((10 : Int) < (a.rn : Int)) = false := by simp; try omega
      go_wp2
      have g0 : (wr.drewN d2).cell? ⟨b, off + k * 7, none⟩ = some (.int .i64 a.s) := f0
      have g1 : (wr.drewN d2).cell? ⟨b, off + k * 7 + 1, none⟩ = some (.slice a.lA a.ln a.lc) := f1
      have g2 : (wr.drewN d2).cell? ⟨b, off + k * 7 + 2, none⟩ = some (.int .i64 a.err) := f2
      have g3 : (wr.drewN d2).cell? ⟨b, off + k * 7 + 3, none⟩ = some (.int .i64 a.pos) := f3
      have g4 : (wr.drewN d2).cell? ⟨b, off + k * 7 + 4, none⟩ = some (.slice a.rA a.rn a.rc) := f4
      have g5 : (wr.drewN d2).cell? ⟨b, off + k * 7 + 5, none⟩ = some (.int .i64 a.cnt) := f5
      have g6 : (wr.drewN d2).cell? ⟨b, off + k * 7 + 6, none⟩ = some (.int .u64 a.wrote) := f6
      have hokW := Lib.hid (hok.out.drewN d2)
      have hszW : w.heap.size ≤ (wr.drewN d2).heap.size := hsz
      clear f0 f1 f2 f3 f4 f5 f6
      generalize wr.drewN d2 = W at *
      have hS : (fun w' : World => w'.cell? ⟨b, off + k * 7, none⟩ = some (.int .i64 a.s) ∧ w'.cell? ⟨b, off + k * 7 + 1, none⟩ = some (.slice a.lA a.ln a.lc) ∧ w'.cell? ⟨b, off + k * 7 + 2, none⟩ = some (.int .i64 a.err) ∧ w'.cell? ⟨b, off + k * 7 + 3, none⟩ = some (.int .i64 a.pos) ∧ w'.cell? ⟨b, off + k * 7 + 4, none⟩ = some (.slice a.rA a.rn a.rc) ∧ w'.cell? ⟨b, off + k * 7 + 5, none⟩ = some (.int .i64 a.cnt) ∧ w'.cell? ⟨b, off + k * 7 + 6, none⟩ = some (.int .u64 a.wrote)) W.drew := ⟨g0, g1, g2, g3, g4, g5, g6⟩
      have W1 : Below W.heap.size W W.drew := (Below.refl _ _).drew
      have hbW : b < W.heap.size := by omega
      refine wp_region_T (fun w' : World => w'.cell? ⟨b, off + k * 7, none⟩ = some (.int .i64 a.s) ∧ w'.cell? ⟨b, off + k * 7 + 1, none⟩ = some (.slice a.lA a.ln a.lc) ∧ w'.cell? ⟨b, off + k * 7 + 2, none⟩ = some (.int .i64 a.err) ∧ w'.cell? ⟨b, off + k * 7 + 3, none⟩ = some (.int .i64 a.pos) ∧ w'.cell? ⟨b, off + k * 7 + 4, none⟩ = some (.slice a.rA a.rn a.rc) ∧ w'.cell? ⟨b, off + k * 7 + 5, none⟩ = some (.int .i64 a.cnt) ∧ w'.cell? ⟨b, off + k * 7 + 6, none⟩ = some (.int .u64 a.wrote)) 14 (by kernel_rfl) ?_
      refine wpAnyT_take (i := 0) (v := ?v0) rfl (by kernel_rfl) (fun _ _ _ h => h) (by rfl) (fun w hSw => ?y0) hS ?_
      case y0 => obtain ⟨x0, x1, x2, x3, x4, x5, x6⟩ := hSw; go_simp; try rfl
      ((try simp only [Act.put]); (try simp only [List.setIfInBounds_toArray]); (try simp only [List.set_cons_succ]); (try simp only [List.set_cons_zero]))
      refine wpAnyT_take (i := 1) (v := ?v1) rfl (by kernel_rfl) (fun _ _ _ h => h) (by rfl) (fun w hSw => ?y1) hS ?_
      case y1 => obtain ⟨x0, x1, x2, x3, x4, x5, x6⟩ := hSw; go_simp; try rfl
      ((try simp only [Act.put]); (try simp only [List.setIfInBounds_toArray]); (try simp only [List.set_cons_succ]); (try simp only [List.set_cons_zero]))
      refine wpAnyT_take (i := 2) (v := ?v2) rfl (by kernel_rfl) (fun _ _ _ h => h) (by rfl) (fun w hSw => ?y2) hS ?_
      case y2 => obtain ⟨x0, x1, x2, x3, x4, x5, x6⟩ := hSw; go_simp; try rfl
      ((try simp only [Act.put]); (try simp only [List.setIfInBounds_toArray]); (try simp only [List.set_cons_succ]); (try simp only [List.set_cons_zero]))
      refine wpAnyT_take (i := 3) (v := ?v3) rfl (by kernel_rfl) (fun _ _ _ h => h) (by rfl) (fun w hSw => ?y3) hS ?_
      case y3 => obtain ⟨x0, x1, x2, x3, x4, x5, x6⟩ := hSw; go_simp; try rfl
      ((try simp only [Act.put]); (try simp only [List.setIfInBounds_toArray]); (try simp only [List.set_cons_succ]); (try simp only [List.set_cons_zero]))
      refine wpAnyT_take (i := 4) (v := ?v4) rfl (by kernel_rfl) (fun _ _ _ h => h) (by rfl) (fun w hSw => ?y4) hS ?_
      case y4 => obtain ⟨x0, x1, x2, x3, x4, x5, x6⟩ := hSw; go_simp; try rfl
      ((try simp only [Act.put]); (try simp only [List.setIfInBounds_toArray]); (try simp only [List.set_cons_succ]); (try simp only [List.set_cons_zero]))
      refine wpAnyT_take (i := 6) (v := ?v6) rfl (by kernel_rfl) (fun _ _ _ h => h) (by rfl) (fun w hSw => ?y6) hS ?_
      case y6 => obtain ⟨x0, x1, x2, x3, x4, x5, x6⟩ := hSw; go_simp; try rfl
      ((try simp only [Act.put]); (try simp only [List.setIfInBounds_toArray]); (try simp only [List.set_cons_succ]); (try simp only [List.set_cons_zero]))
      refine wpAnyT_take (i := 7) (v := ?v7) rfl (by kernel_rfl) (fun _ _ _ h => h) (by rfl) (fun w hSw => ?y7) hS ?_
      case y7 => obtain ⟨x0, x1, x2, x3, x4, x5, x6⟩ := hSw; go_simp; try rfl
      ((try simp only [Act.put]); (try simp only [List.setIfInBounds_toArray]); (try simp only [List.set_cons_succ]); (try simp only [List.set_cons_zero]))
      refine wpAnyT_take (i := 8) (v := ?v8) rfl (by kernel_rfl) (fun _ _ _ h => h) (by rfl) (fun w hSw => ?y8) hS ?_
      case y8 => obtain ⟨x0, x1, x2, x3, x4, x5, x6⟩ := hSw; go_simp; try rfl
      ((try simp only [Act.put]); (try simp only [List.setIfInBounds_toArray]); (try simp only [List.set_cons_succ]); (try simp only [List.set_cons_zero]))
      refine wpAnyT_take (i := 9) (v := ?v9) rfl (by kernel_rfl) (fun _ _ _ h => h) (by rfl) (fun w hSw => ?y9) hS ?_
      case y9 => obtain ⟨x0, x1, x2, x3, x4, x5, x6⟩ := hSw; go_simp; try rfl
      ((try simp only [Act.put]); (try simp only [List.setIfInBounds_toArray]); (try simp only [List.set_cons_succ]); (try simp only [List.set_cons_zero]))
      refine wpAnyT_take (i := 10) (v := ?v10) rfl (by kernel_rfl) (fun _ _ _ h => h) (by rfl) (fun w hSw => ?y10) hS ?_
      case y10 => obtain ⟨x0, x1, x2, x3, x4, x5, x6⟩ := hSw; go_simp; try rfl
      ((try simp only [Act.put]); (try simp only [List.setIfInBounds_toArray]); (try simp only [List.set_cons_succ]); (try simp only [List.set_cons_zero]))
      refine wpAnyT_take (i := 11) (v := ?v11) rfl (by kernel_rfl) (fun _ _ _ h => h) (by rfl) (fun w hSw => ?y11) hS ?_
      case y11 => obtain ⟨x0, x1, x2, x3, x4, x5, x6⟩ := hSw; go_simp; try rfl
      ((try simp only [Act.put]); (try simp only [List.setIfInBounds_toArray]); (try simp only [List.set_cons_succ]); (try simp only [List.set_cons_zero]))
      refine wpAnyT_one (i := 5) rfl (by kernel_rfl) (fun K hK => ?_)
      go_simp
      refine (sees_any a A n c ts W.drew B (by show B ≤ W.heap.size; omega) ((h.below (hnx2.mono hB)).below ((W1).mono (by omega))) (hokW.out.below (W1.mono (by omega))) hl6).mono ?_
      rintro e w3 ⟨rfl, hb3⟩
      have g3' : Below W.heap.size W w3 := W1.trans (hb3.mono (by simp))
      have S1 : (fun w' : World => w'.cell? ⟨b, off + k * 7, none⟩ = some (.int .i64 a.s) ∧ w'.cell? ⟨b, off + k * 7 + 1, none⟩ = some (.slice a.lA a.ln a.lc) ∧ w'.cell? ⟨b, off + k * 7 + 2, none⟩ = some (.int .i64 a.err) ∧ w'.cell? ⟨b, off + k * 7 + 3, none⟩ = some (.int .i64 a.pos) ∧ w'.cell? ⟨b, off + k * 7 + 4, none⟩ = some (.slice a.rA a.rn a.rc) ∧ w'.cell? ⟨b, off + k * 7 + 5, none⟩ = some (.int .i64 a.cnt) ∧ w'.cell? ⟨b, off + k * 7 + 6, none⟩ = some (.int .u64 a.wrote)) w3 := ⟨(g3'.cell (p := ⟨b, off + k * 7 , none⟩) hbW).trans g0, (g3'.cell (p := ⟨b, off + k * 7 + 1, none⟩) hbW).trans g1, (g3'.cell (p := ⟨b, off + k * 7 + 2, none⟩) hbW).trans g2, (g3'.cell (p := ⟨b, off + k * 7 + 3, none⟩) hbW).trans g3, (g3'.cell (p := ⟨b, off + k * 7 + 4, none⟩) hbW).trans g4, (g3'.cell (p := ⟨b, off + k * 7 + 5, none⟩) hbW).trans g5, (g3'.cell (p := ⟨b, off + k * 7 + 6, none⟩) hbW).trans g6⟩
      refine hK _ _ (fun _ => S1) ?_
      clear hK K hb3
      refine wpAnyT_one (i := 12) rfl (by kernel_rfl) (fun K hK => ?_)
      go_simp
      refine (refFlows_any a.lA a.ln a.lc a.lab A n c ts w3 B (hokW.out.lab.below (g3'.mono (by omega))) ((h.below (hnx2.mono hB)).below (g3'.mono (by omega)))).mono ?_
      rintro e w4 ⟨rfl, rfl⟩
      refine hK _ _ (fun _ => S1) ?_
      clear hK K
      refine wpAnyT_one (i := 13) rfl (by kernel_rfl) (fun K hK => ?_)
      go_simp
      refine hK _ _ (fun _ => S1) ?_
      clear hK K
      refine wpAnyT_done (by kernel_rfl) ?_ _
      have hnx3 := hnx2.trans (g3'.mono (by omega))
      clear S1 hS g0 g1 g2 g3 g4 g5 g6
      go_wp2
      go_roundw
      case rel =>
        refine ⟨k + 1, by omega, by go_num, hnx3, fun r hr => ?_⟩
        rw [take_next HEl.out, List.mem_append] at hr
        rcases hr with hr | hr
        · exact HA.out r hr
        · obtain rfl := List.mem_singleton.1 hr
          exact hl6
      case measure => simp [intOf]; omega
    · have hR : ∀ r ∈ rs, r.ln ≤ 65536 := fun r hr => HA.out r (by rw [List.take_of_length_le (by have := HL.out; omega)]; exact hr)
      have HRL := Lib.hid hR
      have hszr := hnx.size
      clear hR
      have h1 := h.below (hnx.mono hB)
      have h2 := h'.below (hnx.mono hB)
      go_wp2_with fail
      refine (seen_any A' n' c' rs A n c ts wr B (by omega) h2 h1 (by omega) (fun r hr => ⟨(HR.out r hr).below (hnx.mono hB), HRL.out r hr⟩)).mono ?_
      rintro e w3 ⟨v1, rfl, hown1, hb3⟩
      have hnx3 := hnx.trans (hb3.mono hszr)
      have hsz3 := hnx3.size
      go_wp2_with fail
      refine (refSeen_any A' n' c' rs A n c ts w3 B (by omega) (h'.below (hnx3.mono hB)) (h.below (hnx3.mono hB)) (by omega) (fun r hr => (HR.out r hr).below (hnx3.mono hB))).mono ?_
      rintro e w4 ⟨v2, rfl, hown2, hb4⟩
      have hnx4 := hnx3.trans (hb4.mono hsz3)
      have hsz4 := hnx4.size
      have hown3 := own_below hown1 hb4
      have hsl : (seenL ts rs).length ≤ 9223372036854775807 := by
        have := seenTo_le ts rs rs.length
        rw [seenTo_all (Nat.le_refl _)] at this
        have := HL.out
        omega
      obtain ⟨A1, c1, rfl, hs1, _⟩ := own_sl hown3 hsl
      obtain ⟨A2, c2, rfl, hs2, _⟩ := own_sl hown2 hsl
      clear hown1 hown2 hown3 hb3 hb4
      go_wp2_with fail
      refine (sameReplies_self A1 (seenL ts rs).length c1 A2 c2 (seenL ts rs) w4 w4.heap.size (Nat.le_refl _) hs1 hs2 (fun r hr => ?_)).mono ?_
      · have hk := (HR.out r (List.mem_filter.1 hr).1).below (hnx4.mono hB)
        exact ⟨hk.lab.more (by omega), hk.rows.more (by omega), fun x hx => (hk.each x hx).more (by omega)⟩
      rintro e w5 ⟨rfl, hb5⟩
      have hnx5 := hnx4.trans (hb5.mono hsz4)
      clear hb5
      go_wp2
      go_ret
      exact ⟨rfl, hnx5⟩
end Go.Proofs.YtacldkanfjaiiaaGreatDoor
