/- Step, picking where nothing waits. -/
import Derived.Test.YtacldkanfjaiiaaGreatDoorI
import Derived.Deep.DeepCutAuto
namespace Go.Proofs.YtacldkanfjaiiaaGreatDoor
open Go.RowKit
set_option maxRecDepth 100000

theorem quiet_row {P : Program} {f : FuncId} {args : Array Value} {w : World} {n : Nat} {v : Value}
    (h : Calls P f args (w.drewN n) fun e w' => e = .returned v ∧ w.drewN n = w') : Calls P f args (w.drewN n) fun e w'' => e = .returned v ∧ ∃ m, w'' = w.drewN m :=
  quiet_one_keep h

theorem wpAnyT_two {P : Program} {ops : Array Oper} {Q : Exit → Act → World → Prop} {md : Region.Mode} {S : World → Prop} {n : Nat} {i j : Nat} {o o' : Oper} {fuel : Nat} {listed : Array Bool} {a : Act} {w : World} (hi : ops[i]? = some o) (hj : ops[j]? = some o') (hr : Region.ready md ops listed = [i, j])
    (h1 : ∀ K : Act → World → Prop, (∀ a' w', (i < n → S w') → wpAnyT P md ops Q S n fuel (listed.setIfInBounds i true) a' w' → K a' w') → if Region.wanted o (yielded ops a.tmps) then o.wp P a w K Q else K (a.put o.dst undef) w)
    (h2 : ∀ K : Act → World → Prop, (∀ a' w', (j < n → S w') → wpAnyT P md ops Q S n fuel (listed.setIfInBounds j true) a' w' → K a' w') → if Region.wanted o' (yielded ops a.tmps) then o'.wp P a w K Q else K (a.put o'.dst undef) w) :
    wpAnyT P md ops Q S n (fuel + 1) listed a w := by
  refine ⟨fun h0 => (by rw [hr] at h0; cases h0), fun k hk => ?_⟩
  rw [hr] at hk
  have hk2 : k = i ∨ k = j := by simpa using hk
  rcases hk2 with rfl | rfl
  · have := h1 (fun a' w' => (k < n → S w') ∧ wpAnyT P md ops Q S n fuel (listed.setIfInBounds k true) a' w') (fun a' w' h1 h2 => ⟨h1, h2⟩)
    unfold wpOp
    simp only [hi]
    split
    · rename_i hw; rw [if_pos hw] at this; exact .inl this
    · rename_i hw; rw [if_neg hw] at this; exact this
  · have := h2 (fun a' w' => (k < n → S w') ∧ wpAnyT P md ops Q S n fuel (listed.setIfInBounds k true) a' w') (fun a' w' h1 h2 => ⟨h1, h2⟩)
    unfold wpOp
    simp only [hj]
    split
    · rename_i hw; rw [if_pos hw] at this; exact .inl this
    · rename_i hw; rw [if_neg hw] at this; exact this

set_option maxHeartbeats 2000000 in
theorem step_none (w : World) (d : Nat) (l : List Ss) (i : Nat) (s : Ss) (h : DBIs w d l) (hl : l.length ≤ 6) (hi : l[i]? = some s) (h1 : s.hd = []) (h2 : s.bf = []) :
    Calls Tryz.prog 21 #[.pointer (some ⟨d, 0, none⟩), .agg #[.int .i64 2, .int .i64 i, .string ⟨#[]⟩]] w fun e w' => ∃ v, e = .returned (.tuple #[v, .bool false]) ∧ Below w.heap.size w w' := by
  have HI := Lib.hid hi
  have H1 := Lib.hid h1
  have H2 := Lib.hid h2
  have hil : i < l.length := (List.getElem?_eq_some_iff.1 hi).1
  clear hi h1 h2
  have b0 : decide ((i : Int) < 0) = false := by simp; try omega
  have b1 : decide ((l.length : Int) ≤ (i : Int)) = false := by simp; try omega
  have e0 : ∀ o o', Below w.heap.size w ((w.alloc o).alloc o') := fun o o' => ((Below.refl _ _).alloc (Nat.le_refl _) _).alloc (by simp) _
  go_enter Tryz.func21, Tryz.ntmps21
  go_wp2
  have hb := e0 (.cells #[.int .i64 2, .int .i64 i, .string ⟨#[]⟩] 46) (.cells #[.int .i64 0, .slice none 0 0, .int .i64 0, .int .i64 0, .slice none 0 0, .int .i64 0, .int .u64 0] 31)
  have hz : w.heap.size + 2 ≤ (((w.alloc (.cells #[.int .i64 2, .int .i64 i, .string ⟨#[]⟩] 46)).alloc (.cells #[.int .i64 0, .slice none 0 0, .int .i64 0, .int .i64 0, .slice none 0 0, .int .i64 0, .int .u64 0] 31))).heap.size := by simp
  have hst : ((w.alloc (.cells #[.int .i64 2, .int .i64 i, .string ⟨#[]⟩] 46)).alloc (.cells #[.int .i64 0, .slice none 0 0, .int .i64 0, .int .i64 0, .slice none 0 0, .int .i64 0, .int .u64 0] 31)).heap[w.heap.size]? = some (.cells #[.int .i64 2, .int .i64 i, .string ⟨#[]⟩] 46) := by
    rw [heap_old _ _ _ (by simp), heap_at _ _ _ rfl]
  have hrs : ((w.alloc (.cells #[.int .i64 2, .int .i64 i, .string ⟨#[]⟩] 46)).alloc (.cells #[.int .i64 0, .slice none 0 0, .int .i64 0, .int .i64 0, .slice none 0 0, .int .i64 0, .int .u64 0] 31)).heap[w.heap.size + 1]? = some (.cells #[.int .i64 0, .slice none 0 0, .int .i64 0, .int .i64 0, .slice none 0 0, .int .i64 0, .int .u64 0] 31) := by
    rw [heap_at _ _ _ (by simp)]
  generalize ((w.alloc (.cells #[.int .i64 2, .int .i64 i, .string ⟨#[]⟩] 46)).alloc (.cells #[.int .i64 0, .slice none 0 0, .int .i64 0, .int .i64 0, .slice none 0 0, .int .i64 0, .int .u64 0] 31)) = W at *
  clear e0
  have hW := h.below (hb.mono (Nat.le_refl _))
  obtain ⟨kb, base, mb, ob, d1, hk, _, _⟩ := hW.is
  have c0 : W.cell? ⟨d, 0, none⟩ = some (.pointer (some ⟨kb, 0, none⟩)) := cell_of_row W d 0 _ _ _ d1
  have s0 : W.cell? ⟨w.heap.size, 0, none⟩ = some (.int .i64 2) := cell_of_row W _ 0 _ _ _ hst
  have s1 : W.cell? ⟨w.heap.size, 1, none⟩ = some (.int .i64 i) := cell_of_row W _ 1 _ _ _ hst
  have HST := Lib.hid hst
  have HRS := Lib.hid hrs
  clear d1 hst hrs
  go_quiet (first | (go_at_call 28; exact quiet_one_keep (none_any _ d l (hW.below (below_drewN (Below.refl _ _) _)))) | (go_at_call 29; exact quiet_one_keep (sessions_any _ kb base l (hk.below (below_drewN (Below.refl _ _) _)) hl)))
  go_upto_region 3 with (fail)
  have e1 : Below W.heap.size W (W.drewN nq) := below_drewN (Below.refl _ _) _
  have hV := hW.below e1
  have kV := hk.below e1
  have c1 : (W.drewN nq).cell? ⟨d, 0, none⟩ = some (.pointer (some ⟨kb, 0, none⟩)) := c0
  have s2 : (W.drewN nq).cell? ⟨w.heap.size, 0, none⟩ = some (.int .i64 2) := s0
  have s3 : (W.drewN nq).cell? ⟨w.heap.size, 1, none⟩ = some (.int .i64 i) := s1
  have hRV := Lib.hid (show (W.drewN nq).heap[w.heap.size + 1]? = _ from HRS.out)
  have hb2 := hb.trans (e1.mono (by omega))
  have hz2 : w.heap.size + 2 ≤ (W.drewN nq).heap.size := hz
  clear HST HRS e1 hb hW hk c0 s0 s1
  generalize W.drewN nq = V at *
  clear hz
  go_cut [6] (fun r wx => ∃ p, r = .pointer (some ⟨p, 0, none⟩) ∧ V.heap.size ≤ p ∧ p < wx.heap.size ∧ Below V.heap.size V wx)
  case first =>
    have hdV := hV.lt
    have hS : (fun w' : World => w'.cell? ⟨d, 0, none⟩ = some (.pointer (some ⟨kb, 0, none⟩)) ∧ w'.cell? ⟨w.heap.size, 0, none⟩ = some (.int .i64 2) ∧ w'.cell? ⟨w.heap.size, 1, none⟩ = some (.int .i64 i)) V.drew := ⟨c1, s2, s3⟩
    have f1 : Below V.heap.size V V.drew := (Below.refl _ _).drew
    have kD := kV.below f1
    refine wp_region_T (fun w' : World => w'.cell? ⟨d, 0, none⟩ = some (.pointer (some ⟨kb, 0, none⟩)) ∧ w'.cell? ⟨w.heap.size, 0, none⟩ = some (.int .i64 2) ∧ w'.cell? ⟨w.heap.size, 1, none⟩ = some (.int .i64 i)) 11 (by kernel_rfl) ?_
    refine wpAnyT_take (i := 0) (v := ?v0hS) rfl (by kernel_rfl) (fun _ _ _ h => h) (by rfl) (fun w hSw => ?y0hS) hS ?_
    case y0hS => obtain ⟨x0, x1, x2⟩ := hSw; go_simp; try rfl
    ((try simp only [Act.put]); (try simp only [List.setIfInBounds_toArray]); (try simp only [List.set_cons_succ]); (try simp only [List.set_cons_zero]))
    refine wpAnyT_take (i := 1) (v := ?v1hS) rfl (by kernel_rfl) (fun _ _ _ h => h) (by rfl) (fun w hSw => ?y1hS) hS ?_
    case y1hS => obtain ⟨x0, x1, x2⟩ := hSw; go_simp; try rfl
    ((try simp only [Act.put]); (try simp only [List.setIfInBounds_toArray]); (try simp only [List.set_cons_succ]); (try simp only [List.set_cons_zero]))
    refine wpAnyT_take (i := 2) (v := ?v2hS) rfl (by kernel_rfl) (fun _ _ _ h => h) (by rfl) (fun w hSw => ?y2hS) hS ?_
    case y2hS => obtain ⟨x0, x1, x2⟩ := hSw; go_simp; try rfl
    ((try simp only [Act.put]); (try simp only [List.setIfInBounds_toArray]); (try simp only [List.set_cons_succ]); (try simp only [List.set_cons_zero]))
    refine wpAnyT_take (i := 3) (v := ?v3hS) rfl (by kernel_rfl) (fun _ _ _ h => h) (by rfl) (fun w hSw => ?y3hS) hS ?_
    case y3hS => obtain ⟨x0, x1, x2⟩ := hSw; go_simp; try rfl
    ((try simp only [Act.put]); (try simp only [List.setIfInBounds_toArray]); (try simp only [List.set_cons_succ]); (try simp only [List.set_cons_zero]))
    refine wpAnyT_take (i := 4) (v := ?v4hS) rfl (by kernel_rfl) (fun _ _ _ h => h) (by rfl) (fun w hSw => ?y4hS) hS ?_
    case y4hS => obtain ⟨x0, x1, x2⟩ := hSw; go_simp; try rfl
    ((try simp only [Act.put]); (try simp only [List.setIfInBounds_toArray]); (try simp only [List.set_cons_succ]); (try simp only [List.set_cons_zero]))
    refine wpAnyT_take (i := 5) (v := ?v5hS) rfl (by kernel_rfl) (fun _ _ _ h => h) (by rfl) (fun w hSw => ?y5hS) hS ?_
    case y5hS => obtain ⟨x0, x1, x2⟩ := hSw; go_simp; try rfl
    ((try simp only [Act.put]); (try simp only [List.setIfInBounds_toArray]); (try simp only [List.set_cons_succ]); (try simp only [List.set_cons_zero]))
    refine wpAnyT_take (i := 6) (v := ?v6hS) rfl (by kernel_rfl) (fun _ _ _ h => h) (by rfl) (fun w hSw => ?y6hS) hS ?_
    case y6hS => obtain ⟨x0, x1, x2⟩ := hSw; go_simp; try rfl
    ((try simp only [Act.put]); (try simp only [List.setIfInBounds_toArray]); (try simp only [List.set_cons_succ]); (try simp only [List.set_cons_zero]))
    refine wpAnyT_take (i := 7) (v := ?v7hS) rfl (by kernel_rfl) (fun _ _ _ h => h) (by rfl) (fun w hSw => ?y7hS) hS ?_
    case y7hS => obtain ⟨x0, x1, x2⟩ := hSw; go_simp; try rfl
    ((try simp only [Act.put]); (try simp only [List.setIfInBounds_toArray]); (try simp only [List.set_cons_succ]); (try simp only [List.set_cons_zero]))
    refine wpAnyT_two (i := 8) (j := 10) rfl rfl (by kernel_rfl) (fun K hK => ?_) (fun K hK => ?_)
    · go_simp
      refine (kLabel_any V.drew kb base l i s kD hl HI.out).mono ?_
      rintro e w1 ⟨v1, rfl, hown1, hb1⟩
      have hlm := mayB_len (kD.each s (List.mem_of_getElem? HI.out)).may
      obtain ⟨A1, a1, rfl, _, _⟩ := own_sl hown1 (by omega)
      have g1 : Below V.heap.size V w1 := f1.trans (hb1.mono (by simp))
      have z1 := g1.size
      have S1 : (fun w' : World => w'.cell? ⟨d, 0, none⟩ = some (.pointer (some ⟨kb, 0, none⟩)) ∧ w'.cell? ⟨w.heap.size, 0, none⟩ = some (.int .i64 2) ∧ w'.cell? ⟨w.heap.size, 1, none⟩ = some (.int .i64 i)) w1 := ⟨(g1.cell (p := ⟨d, 0, none⟩) hdV).trans c1, (g1.cell (p := ⟨w.heap.size, 0, none⟩) (by simp; omega)).trans s2, (g1.cell (p := ⟨w.heap.size, 1, none⟩) (by simp; omega)).trans s3⟩
      refine hK _ _ (fun _ => S1) ?_
      clear hK K hown1 hb1
      refine wpAnyT_take (i := 9) (v := ?v9S1) rfl (by kernel_rfl) (fun _ _ _ h => h) (by rfl) (fun w hSw => ?y9S1) S1 ?_
      case y9S1 => obtain ⟨x0, x1, x2⟩ := hSw; go_simp; try rfl
      ((try simp only [Act.put]); (try simp only [List.setIfInBounds_toArray]); (try simp only [List.set_cons_succ]); (try simp only [List.set_cons_zero]))
      refine wpAnyT_one (i := 10) rfl (by kernel_rfl) (fun K hK => ?_)
      go_simp
      refine hK _ _ (fun _ => ⟨(World.cell?_alloc_lt w1 _ _ (by simp; omega)).trans S1.1, (World.cell?_alloc_lt w1 _ _ (by simp; omega)).trans S1.2.1, (World.cell?_alloc_lt w1 _ _ (by simp; omega)).trans S1.2.2⟩) ?_
      clear hK K
      refine wpAnyT_one (i := 11) rfl (by kernel_rfl) (fun K hK => ?_)
      go_simp
      refine hK _ _ (fun h => absurd h (by omega)) ?_
      refine wpAnyT_done (by kernel_rfl) ?_ _
      go_wp2
      go_meet
      case rel =>
        refine ⟨w1.heap.size, rfl, z1, by simp, ?_⟩
        exact g1.alloc z1 _
    · go_simp
      have g0 : Below V.heap.size V (V.drew.alloc (.cells #[.int .i64 0, .slice none 0 0, .int .i64 0, .int .i64 0, .slice none 0 0, .int .i64 0, .int .u64 0] 31)) := f1.alloc (by simp) _
      have hS0 : (fun w' : World => w'.cell? ⟨d, 0, none⟩ = some (.pointer (some ⟨kb, 0, none⟩)) ∧ w'.cell? ⟨w.heap.size, 0, none⟩ = some (.int .i64 2) ∧ w'.cell? ⟨w.heap.size, 1, none⟩ = some (.int .i64 i)) (V.drew.alloc (.cells #[.int .i64 0, .slice none 0 0, .int .i64 0, .int .i64 0, .slice none 0 0, .int .i64 0, .int .u64 0] 31)) := ⟨(g0.cell (p := ⟨d, 0, none⟩) hdV).trans c1, (g0.cell (p := ⟨w.heap.size, 0, none⟩) (by simp; omega)).trans s2, (g0.cell (p := ⟨w.heap.size, 1, none⟩) (by simp; omega)).trans s3⟩
      refine hK _ _ (fun _ => hS0) ?_
      clear hK K
      refine wpAnyT_one (i := 8) rfl (by kernel_rfl) (fun K hK => ?_)
      go_simp
      refine (kLabel_any (V.drew.alloc (.cells #[.int .i64 0, .slice none 0 0, .int .i64 0, .int .i64 0, .slice none 0 0, .int .i64 0, .int .u64 0] 31)) kb base l i s (kV.below g0) hl HI.out).mono ?_
      rintro e w1 ⟨v1, rfl, hown1, hb1⟩
      have hlm := mayB_len (kD.each s (List.mem_of_getElem? HI.out)).may
      obtain ⟨A1, a1, rfl, _, _⟩ := own_sl hown1 (by omega)
      have g1 : Below V.heap.size V w1 := g0.trans (hb1.mono (by simp))
      have z1 := g1.size
      have hbl : w1.heap[V.heap.size]? = some (.cells #[.int .i64 0, .slice none 0 0, .int .i64 0, .int .i64 0, .slice none 0 0, .int .i64 0, .int .u64 0] 31) := (hb1.block _ (by simp)).trans (heap_at V.drew _ _ rfl)
      have S1 : (fun w' : World => w'.cell? ⟨d, 0, none⟩ = some (.pointer (some ⟨kb, 0, none⟩)) ∧ w'.cell? ⟨w.heap.size, 0, none⟩ = some (.int .i64 2) ∧ w'.cell? ⟨w.heap.size, 1, none⟩ = some (.int .i64 i)) w1 := ⟨(g1.cell (p := ⟨d, 0, none⟩) hdV).trans c1, (g1.cell (p := ⟨w.heap.size, 0, none⟩) (by simp; omega)).trans s2, (g1.cell (p := ⟨w.heap.size, 1, none⟩) (by simp; omega)).trans s3⟩
      refine hK _ _ (fun _ => S1) ?_
      clear hK K hown1 hb1
      refine wpAnyT_take (i := 9) (v := ?v9S2) rfl (by kernel_rfl) (fun _ _ _ h => h) (by rfl) (fun w hSw => ?y9S2) S1 ?_
      case y9S2 => obtain ⟨x0, x1, x2⟩ := hSw; go_simp; try rfl
      ((try simp only [Act.put]); (try simp only [List.setIfInBounds_toArray]); (try simp only [List.set_cons_succ]); (try simp only [List.set_cons_zero]))
      have fz0 : w1.frozen? ⟨V.heap.size, 0, none⟩ = false := frozen_of_row w1 _ 0 _ _ hbl
      have fz1 : w1.frozen? ⟨V.heap.size, 1, none⟩ = false := frozen_of_row w1 _ 1 _ _ hbl
      have fz2 : w1.frozen? ⟨V.heap.size, 2, none⟩ = false := frozen_of_row w1 _ 2 _ _ hbl
      have fz3 : w1.frozen? ⟨V.heap.size, 3, none⟩ = false := frozen_of_row w1 _ 3 _ _ hbl
      have fz4 : w1.frozen? ⟨V.heap.size, 4, none⟩ = false := frozen_of_row w1 _ 4 _ _ hbl
      have fz5 : w1.frozen? ⟨V.heap.size, 5, none⟩ = false := frozen_of_row w1 _ 5 _ _ hbl
      have fz6 : w1.frozen? ⟨V.heap.size, 6, none⟩ = false := frozen_of_row w1 _ 6 _ _ hbl
      have y0 := cell_of_row w1 V.heap.size 0 _ _ _ hbl
      have y1 := cell_of_row w1 V.heap.size 1 _ _ _ hbl
      have y2 := cell_of_row w1 V.heap.size 2 _ _ _ hbl
      have y3 := cell_of_row w1 V.heap.size 3 _ _ _ hbl
      have y4 := cell_of_row w1 V.heap.size 4 _ _ _ hbl
      have y5 := cell_of_row w1 V.heap.size 5 _ _ _ hbl
      have y6 := cell_of_row w1 V.heap.size 6 _ _ _ hbl
      simp only [List.getElem?_toArray, List.getElem?_cons_zero, List.getElem?_cons_succ] at y0 y1 y2 y3 y4 y5 y6
      have zl := (Array.getElem?_eq_some_iff.1 hbl).1
      clear hbl
      refine wpAnyT_one (i := 11) rfl (by kernel_rfl) (fun K hK => ?_)
      go_simp
      refine hK _ _ (fun h => absurd h (by omega)) ?_
      refine wpAnyT_done (by kernel_rfl) ?_ _
      go_wp2
      go_meet
      case rel =>
        refine ⟨V.heap.size, rfl, Nat.le_refl _, ?_, ?_⟩
        · simpa using zl
        · iterate 7 refine Below.setCell ?_ (by exact Nat.le_refl _) _
          exact g1
  case rest =>
    obtain ⟨p, rfl, hp1, hp2, hbw⟩ := hcut
    have hWc := (hV.below hbw)
    have rr := (hbw.block _ (by omega)).trans hRV.out
    have s4 := (hbw.cell (p := ⟨w.heap.size, 0, none⟩) (by simp; omega)).trans s2
    have s5 := (hbw.cell (p := ⟨w.heap.size, 1, none⟩) (by simp; omega)).trans s3
    have hb3 := hb2.trans (hbw.mono (by omega))
    have RR := Lib.hid rr
    have z3 := hbw.size
    clear rr hbw hb2 hV kV c1 s2 s3
    go_wp2_with fail
    refine (picks_none wc d p l i s hWc hl HI.out H1.out H2.out).mono ?_
    rintro e w1 ⟨rfl, hb4⟩
    have hb5 := hb3.trans (hb4.mono (by omega))
    have r1 := (hb4.block _ (by omega)).trans RR.out
    have fz0 : w1.frozen? ⟨w.heap.size + 1, 0, none⟩ = false := frozen_of_row w1 _ 0 _ _ r1
    have q0 := cell_of_row w1 (w.heap.size + 1) 0 _ _ _ r1
    have fz1 : w1.frozen? ⟨w.heap.size + 1, 1, none⟩ = false := frozen_of_row w1 _ 1 _ _ r1
    have q1 := cell_of_row w1 (w.heap.size + 1) 1 _ _ _ r1
    have fz2 : w1.frozen? ⟨w.heap.size + 1, 2, none⟩ = false := frozen_of_row w1 _ 2 _ _ r1
    have q2 := cell_of_row w1 (w.heap.size + 1) 2 _ _ _ r1
    have fz3 : w1.frozen? ⟨w.heap.size + 1, 3, none⟩ = false := frozen_of_row w1 _ 3 _ _ r1
    have q3 := cell_of_row w1 (w.heap.size + 1) 3 _ _ _ r1
    have fz4 : w1.frozen? ⟨w.heap.size + 1, 4, none⟩ = false := frozen_of_row w1 _ 4 _ _ r1
    have q4 := cell_of_row w1 (w.heap.size + 1) 4 _ _ _ r1
    have fz5 : w1.frozen? ⟨w.heap.size + 1, 5, none⟩ = false := frozen_of_row w1 _ 5 _ _ r1
    have q5 := cell_of_row w1 (w.heap.size + 1) 5 _ _ _ r1
    have fz6 : w1.frozen? ⟨w.heap.size + 1, 6, none⟩ = false := frozen_of_row w1 _ 6 _ _ r1
    have q6 := cell_of_row w1 (w.heap.size + 1) 6 _ _ _ r1
    simp only [List.getElem?_toArray, List.getElem?_cons_zero, List.getElem?_cons_succ] at q0 q1 q2 q3 q4 q5 q6
    have ql := (Array.getElem?_eq_some_iff.1 r1).1
    have R1 := Lib.hid r1
    clear r1 hb4
    go_wp2
    have hbF : Below w.heap.size w (((((((w1.setCell ⟨w.heap.size + 1, 0, none⟩ (.int .i64 0)).setCell ⟨w.heap.size + 1, 1, none⟩ (.slice none 0 0)).setCell ⟨w.heap.size + 1, 2, none⟩ (.int .i64 0)).setCell ⟨w.heap.size + 1, 3, none⟩ (.int .i64 0)).setCell ⟨w.heap.size + 1, 4, none⟩ (.slice none 0 0)).setCell ⟨w.heap.size + 1, 5, none⟩ (.int .i64 0)).setCell ⟨w.heap.size + 1, 6, none⟩ (.int .u64 0)) := (Below.setCell (Below.setCell (Below.setCell (Below.setCell (Below.setCell (Below.setCell (Below.setCell hb5 (by exact Nat.le_succ _) _) (by exact Nat.le_succ _) _) (by exact Nat.le_succ _) _) (by exact Nat.le_succ _) _) (by exact Nat.le_succ _) _) (by exact Nat.le_succ _) _) (by exact Nat.le_succ _) _)
    have rF : (((((((w1.setCell ⟨w.heap.size + 1, 0, none⟩ (.int .i64 0)).setCell ⟨w.heap.size + 1, 1, none⟩ (.slice none 0 0)).setCell ⟨w.heap.size + 1, 2, none⟩ (.int .i64 0)).setCell ⟨w.heap.size + 1, 3, none⟩ (.int .i64 0)).setCell ⟨w.heap.size + 1, 4, none⟩ (.slice none 0 0)).setCell ⟨w.heap.size + 1, 5, none⟩ (.int .i64 0)).setCell ⟨w.heap.size + 1, 6, none⟩ (.int .u64 0)).heap[w.heap.size + 1]? = _ := (heap_setCell_same _ _ 6 _ _ _ (heap_setCell_same _ _ 5 _ _ _ (heap_setCell_same _ _ 4 _ _ _ (heap_setCell_same _ _ 3 _ _ _ (heap_setCell_same _ _ 2 _ _ _ (heap_setCell_same _ _ 1 _ _ _ (heap_setCell_same _ _ 0 _ _ _ R1.out)))))))
    clear fz0 fz1 fz2 fz3 fz4 fz5 fz6 q0 q1 q2 q3 q4 q5 q6
    generalize (((((((w1.setCell ⟨w.heap.size + 1, 0, none⟩ (.int .i64 0)).setCell ⟨w.heap.size + 1, 1, none⟩ (.slice none 0 0)).setCell ⟨w.heap.size + 1, 2, none⟩ (.int .i64 0)).setCell ⟨w.heap.size + 1, 3, none⟩ (.int .i64 0)).setCell ⟨w.heap.size + 1, 4, none⟩ (.slice none 0 0)).setCell ⟨w.heap.size + 1, 5, none⟩ (.int .i64 0)).setCell ⟨w.heap.size + 1, 6, none⟩ (.int .u64 0)) = wF at *
    have q0 := cell_of_row wF (w.heap.size + 1) 0 _ _ _ rF
    have q1 := cell_of_row wF (w.heap.size + 1) 1 _ _ _ rF
    have q2 := cell_of_row wF (w.heap.size + 1) 2 _ _ _ rF
    have q3 := cell_of_row wF (w.heap.size + 1) 3 _ _ _ rF
    have q4 := cell_of_row wF (w.heap.size + 1) 4 _ _ _ rF
    have q5 := cell_of_row wF (w.heap.size + 1) 5 _ _ _ rF
    have q6 := cell_of_row wF (w.heap.size + 1) 6 _ _ _ rF
    simp only [List.getElem?_toArray, List.getElem?_cons_zero, List.getElem?_cons_succ, List.setIfInBounds_toArray, List.set_cons_zero, List.set_cons_succ] at q0 q1 q2 q3 q4 q5 q6
    refine bodyPost_ret (v := .tuple #[.agg #[.int .i64 0, .slice none 0 0, .int .i64 0, .int .i64 0, .slice none 0 0, .int .i64 0, .int .u64 0], .bool false]) ?_ rfl ⟨_, rfl, hbF⟩
    simp [results, Tryz.results21, go_sem, q0, q1, q2, q3, q4, q5, q6, Result.andThen]
end Go.Proofs.YtacldkanfjaiiaaGreatDoor
