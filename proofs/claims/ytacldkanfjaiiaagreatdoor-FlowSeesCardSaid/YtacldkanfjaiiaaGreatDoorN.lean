/- kern.New. -/
import Derived.Test.YtacldkanfjaiiaaGreatDoorK
import Derived.Test.YtacldkanfjaiiaaGreatDoorR
namespace Go.Proofs.YtacldkanfjaiiaaGreatDoor
open Go.RowKit
set_option maxRecDepth 100000

/-- how a session begins -/
structure Si where
  lA : Option Addr
  ln : Nat
  lc : Nat
  lab : List Nat
  oA : Option Addr
  on : Nat
  oc : Nat
  own : List Nat
def Si.cells (s : Si) : List Value := [.slice s.lA s.ln s.lc, .slice s.oA s.on s.oc]
structure Si.Ok (w : World) (B : Nat) (s : Si) : Prop where
  lab : Sl w B 1 s.lA s.ln (Us s.lab)
  own : Sl w B 1 s.oA s.on (Us s.own)
  may : mayB s.lab = true
  mayO : mayB s.own = true
theorem Si.Ok.below {w w' : World} {B : Nat} {s : Si} (h : s.Ok w B) (hb : Below B w w') : s.Ok w' B := ⟨h.lab.below hb, h.own.below hb, h.may, h.mayO⟩
theorem mayB_len {l : List Nat} (h : mayB l = true) : l.length ≤ 8 := by
  unfold mayB at h; simp at h; exact h.2

/-- letters that wait: those at the head, those in the channel -/
structure PostIs (w : World) (base p : Nat) (hd bf : List ByteArray) : Prop where
  lo : base ≤ p
  is : ∃ ch v s r, w.heap[p]? = some (.cells #[.chan (some ch), v] 120 (0, 0)) ∧ base ≤ ch ∧ w.heap[ch]? = some (.chan 16 (bf.map Value.string).toArray false s r false) ∧
    w.ownsRow base 9 1 v hd.length (hd.map Value.string)

/-- a session -/
structure Ss where
  lv : Value
  lab : List Nat
  ov : Value
  own : List Nat
  p : Nat
  hd : List ByteArray
  bf : List ByteArray
def Ss.cells (s : Ss) : List Value := [s.lv, s.ov, .pointer (some ⟨s.p, 0, none⟩)]
structure Ss.Ok (w : World) (base : Nat) (s : Ss) : Prop where
  lab : w.ownsRow base 39 1 s.lv s.lab.length (Us s.lab)
  own : w.ownsRow base 39 1 s.ov s.own.length (Us s.own)
  post : PostIs w base s.p s.hd s.bf
  may : mayB s.lab = true

theorem PostIs.below {w w' : World} {base p : Nat} {hd bf : List ByteArray} (h : PostIs w base p hd bf) (hb : Below w.heap.size w w') : PostIs w' base p hd bf := by
  obtain ⟨h0, ch, v, s, r, h1, h2, h3, h4⟩ := h
  exact ⟨h0, ch, v, s, r, (hb.block p (Array.getElem?_eq_some_iff.1 h1).1).trans h1, h2, (hb.block ch (Array.getElem?_eq_some_iff.1 h3).1).trans h3, own_below h4 hb⟩
theorem Ss.Ok.below {w w' : World} {base : Nat} {s : Ss} (h : s.Ok w base) (hb : Below w.heap.size w w') : s.Ok w' base :=
  ⟨own_below h.lab hb, own_below h.own hb, h.post.below hb, h.may⟩
/-- a store below 'base' -/
theorem PostIs.setCell {w : World} {base p : Nat} {hd bf : List ByteArray} (h : PostIs w base p hd bf) {a : Addr} (ha : a.block < base) (u : Value) : PostIs (w.setCell a u) base p hd bf := by
  obtain ⟨h0, ch, v, s, r, h1, h2, h3, h4⟩ := h
  exact ⟨h0, ch, v, s, r, (Below.heap_setCell _ _ _ _ (by omega)).trans h1, h2, (Below.heap_setCell _ _ _ _ (by omega)).trans h3, ownsRow_setCell_below h4 ha u⟩
theorem Ss.Ok.setCell {w : World} {base : Nat} {s : Ss} (h : s.Ok w base) {a : Addr} (ha : a.block < base) (u : Value) : s.Ok (w.setCell a u) base :=
  ⟨ownsRow_setCell_below h.lab ha u, ownsRow_setCell_below h.own ha u, h.post.setCell ha u, h.may⟩

theorem PostIs.grown {w w' : World} {base p : Nat} {hd bf : List ByteArray} (h : PostIs w base p hd bf) {row : Option Nat} (hg : w.grownBy w' row) (hr : ∀ k, row = some k → ∃ cs fr, w.heap[k]? = some (.cells cs 88 fr)) : PostIs w' base p hd bf := by
  obtain ⟨h0, ch, v, s, r, h1, h2, h3, h4⟩ := h
  refine ⟨h0, ch, v, s, r, (hg.block p (Array.getElem?_eq_some_iff.1 h1).1 fun e => ?_).trans h1, h2, (hg.block ch (Array.getElem?_eq_some_iff.1 h3).1 fun e => ?_).trans h3, h4.kept hg (own_row_ne h4 hr (by decide))⟩
  · obtain ⟨cs, fr, h5⟩ := hr p e.symm
    rw [h1] at h5; injection h5 with h5; injection h5 with _ h5 _; cases h5
  · obtain ⟨cs, fr, h5⟩ := hr ch e.symm
    rw [h3] at h5; cases h5
theorem Ss.Ok.grown {w w' : World} {base : Nat} {s : Ss} (h : s.Ok w base) {row : Option Nat} (hg : w.grownBy w' row) (hr : ∀ k, row = some k → ∃ cs fr, w.heap[k]? = some (.cells cs 88 fr)) : s.Ok w' base :=
  ⟨h.lab.kept hg (own_row_ne h.lab hr (by decide)), h.own.kept hg (own_row_ne h.own hr (by decide)), h.post.grown hg hr, h.may⟩

/-- sessions, as they stand in memory: block kb, the rest from base on -/
structure KernIs (w : World) (kb base : Nat) (l : List Ss) : Prop where
  lt : kb < base
  is : ∃ v m, w.heap[kb]? = some (.cells #[v, .map (some m)] 83 (0, 0)) ∧ m < kb ∧ w.heap[m]? = some (.map #[] 0) ∧ w.ownsRow base 88 3 v l.length (l.flatMap Ss.cells)
  each : ∀ s ∈ l, s.Ok w base

theorem T_sessions : SliceTy Tryz.prog 81 88 3 56 := SliceTy.mk' (z := .agg #[.slice none 0 0, .slice none 0 0, .pointer none]) Tryz.underlying81 (by kernel_rfl) rfl (by omega)

/-- a session that has just begun -/
def Ss.news (l : List Ss) (si : List Si) : Prop := l.map (fun s => (s.lab, s.own, s.hd, s.bf)) = si.map (fun s => (s.lab, s.own, [], []))

set_option maxHeartbeats 2000000 in
theorem kernNew_any (A : Option Addr) (n c : Nat) (si : List Si) (q : Int) (w : World) (B : Nat) (hB : B ≤ w.heap.size) (h : Sl w B 2 A n (si.flatMap Si.cells)) (hs : ∀ s ∈ si, s.Ok w B)
    (h1 : 1 ≤ n) (h6 : n ≤ 6) (hq1 : 1 ≤ q) (hq2 : q ≤ 200) :
    Calls Tryz.prog 25 #[.agg #[.slice A n c, .int .i64 q]] w fun e w' => ∃ kb l, e = .returned (.tuple #[.pointer (some ⟨kb, 0, none⟩), .int .i64 0]) ∧ w.heap.size ≤ kb ∧ KernIs w' kb (kb + 1) l ∧ Ss.news l si ∧ Below w.heap.size w w' := by
  have hmm := @run_makeMap Tryz.prog
  have HS := Lib.hid hs
  clear hs
  have HL := Lib.hid (show si.length = n by have := h.1; rw [flat_len Si.cells 2 (fun _ => rfl)] at this; omega)
  have b0 : ((n : Int) == 0) = false := beq_eq_false_iff_ne.2 (by omega)
  have b1 : decide ((6 : Int) < (n : Int)) = false := by simp; omega
  have b2 : decide (q < 1) = false := by simp; omega
  have b3 : decide (200 < q) = false := by simp; omega
  go_enter Tryz.func25, Tryz.ntmps25
  go_wp2
  go_loopw [33] (fun i wr => ∃ (k : Nat) (l : List Ss), k ≤ n ∧ i = .int .i64 k ∧ KernIs wr (w.heap.size + 1 + 1) (w.heap.size + 1 + 1 + 1) l ∧ Ss.news l (si.take k) ∧ Below w.heap.size w wr ∧ w.heap.size + 3 ≤ wr.heap.size) (fun i _ => n - (intOf i).toNat)
  case atStart =>
    refine ⟨0, [], Nat.zero_le _, rfl, ⟨by omega, ⟨_, w.heap.size + 1, heap_at _ _ _ (by simp), by omega, ?_, World.ownsRow_nil _ _ _ _⟩, fun s hs => by simp at hs⟩, rfl, ?_, by simp⟩
    · rw [heap_old _ _ _ (by simp), heap_at _ _ _ (by simp)]
    · exact (((Below.refl _ _).alloc (Nat.le_refl _) _).alloc (by simp) _).alloc (by simp; omega) _
  case round =>
    obtain ⟨k, l, hk, rfl, hK, hnw, hnx, hsz⟩ := hrel
    have HN := Lib.hid hnw
    clear hnw
    by_cases hlt : k < n
    · obtain ⟨b, off, a, rfl, hb, ha, hc⟩ := Sl.elem (f := Si.cells) (m := 2) (fun _ => rfl) (by omega) (h.below (hnx.mono hB)) hlt
      have hok := Lib.hid ((HS.out a (List.mem_of_getElem? ha)).below (hnx.mono hB))
      have f0 : wr.cell? ⟨b, off + k * 2, none⟩ = some (.slice a.lA a.ln a.lc) := hc 0 (by omega)
      have f1 : wr.cell? ⟨b, off + k * 2 + 1, none⟩ = some (.slice a.oA a.on a.oc) := hc 1 (by omega)
      have HA := Lib.hid ha
      clear hc ha
      have m1 := Lib.hid hok.out.may
      have m2 := Lib.hid hok.out.mayO
      obtain ⟨v, m, hkb, hm, hmm2, hown⟩ := hK.is
      go_wp2_with fail
      refine (may_any a.lA a.ln a.lc a.lab _ B (hok.out.lab.alloc (by omega) _)).mono ?_
      rintro e w1 ⟨rfl, d, rfl⟩
      rw [m1.out]
      go_wp2_with fail
      refine (may_any a.oA a.on a.oc a.own _ B ((hok.out.own.alloc (by omega) _).drewN _)).mono ?_
      rintro e w1 ⟨rfl, d', rfl⟩
      rw [m2.out]
      go_wp2_with fail
      have W0 := below_drewN (below_alloc wr (.cells #[.slice a.lA a.ln a.lc, .slice a.oA a.on a.oc] 38)) (d + d')
      have s1 : ((wr.alloc (.cells #[.slice a.lA a.ln a.lc, .slice a.oA a.on a.oc] 38)).drewN (d + d')).cell? ⟨wr.heap.size, 0, none⟩ = some (.slice a.lA a.ln a.lc) := by
        show (wr.alloc _).cell? _ = _; rw [World.cell?_alloc_at _ _ _ _ rfl]; rfl
      have s2 : ((wr.alloc (.cells #[.slice a.lA a.ln a.lc, .slice a.oA a.on a.oc] 38)).drewN (d + d')).cell? ⟨wr.heap.size, 1, none⟩ = some (.slice a.oA a.on a.oc) := by
        show (wr.alloc _).cell? _ = _; rw [World.cell?_alloc_at _ _ _ _ rfl]; rfl
      have s3 : ((wr.alloc (.cells #[.slice a.lA a.ln a.lc, .slice a.oA a.on a.oc] 38)).drewN (d + d')).heap.size = wr.heap.size + 1 := by simp
      have HW := Lib.hid hown
      have HKB := Lib.hid hkb
      have HM := Lib.hid hm
      have HMM := Lib.hid hmm2
      have HLn := Lib.hid (show l.length = k by have := congrArg List.length HN.out; simp at this; have := HL.out; omega)
      have hok2 := Lib.hid (hok.out.below (W0.mono (by omega)))
      have hK2 := Lib.hid (hK)
      have c0 : wr.cell? ⟨w.heap.size + 1 + 1, 0, none⟩ = some v := cell_of_row wr _ 0 _ _ _ hkb
      have HF := Lib.hid ((W0.frozen (p := ⟨w.heap.size + 1 + 1, 0, none⟩) (by simp; omega)).trans (frozen_of_row wr _ 0 _ _ hkb))
      have s0 := (W0.cell (p := ⟨w.heap.size + 1 + 1, 0, none⟩) (by simp; omega)).trans c0
      clear f0 f1 c0 hmm2 hm hkb hown hK
      generalize ((wr.alloc (.cells #[.slice a.lA a.ln a.lc, .slice a.oA a.on a.oc] 38)).drewN (d + d')) = W at *
      have hl3 := mayB_len m1.out
      have hl4 := mayB_len m2.out
      have hl1 : a.ln ≤ 65536 := by have := mayB_len m1.out; have := hok.out.lab.len1; omega
      have hl2 : a.on ≤ 65536 := by have := mayB_len m2.out; have := hok.out.own.len1; omega
      have hS : (fun w' : World => w'.cell? ⟨w.heap.size + 1 + 1, 0, none⟩ = some v ∧ w'.cell? ⟨wr.heap.size, 0, none⟩ = some (.slice a.lA a.ln a.lc) ∧ w'.cell? ⟨wr.heap.size, 1, none⟩ = some (.slice a.oA a.on a.oc)) W.drew := ⟨s0, s1, s2⟩
      refine wp_region_T (fun w' : World => w'.cell? ⟨w.heap.size + 1 + 1, 0, none⟩ = some v ∧ w'.cell? ⟨wr.heap.size, 0, none⟩ = some (.slice a.lA a.ln a.lc) ∧ w'.cell? ⟨wr.heap.size, 1, none⟩ = some (.slice a.oA a.on a.oc)) 15 (by kernel_rfl) ?_
      refine wpAnyT_take (i := 0) (v := ?v0) rfl (by kernel_rfl) (fun _ _ _ h => h) (by rfl) (fun w hSw => ?y0) hS ?_
      case y0 => obtain ⟨x0, x1, x2⟩ := hSw; go_simp; try rfl
      ((try simp only [Act.put]); (try simp only [List.setIfInBounds_toArray]); (try simp only [List.set_cons_succ]); (try simp only [List.set_cons_zero]))
      refine wpAnyT_take (i := 1) (v := ?v1) rfl (by kernel_rfl) (fun _ _ _ h => h) (by rfl) (fun w hSw => ?y1) hS ?_
      case y1 => obtain ⟨x0, x1, x2⟩ := hSw; go_simp; try rfl
      ((try simp only [Act.put]); (try simp only [List.setIfInBounds_toArray]); (try simp only [List.set_cons_succ]); (try simp only [List.set_cons_zero]))
      refine wpAnyT_take (i := 2) (v := ?v2) rfl (by kernel_rfl) (fun _ _ _ h => h) (by rfl) (fun w hSw => ?y2) hS ?_
      case y2 => obtain ⟨x0, x1, x2⟩ := hSw; go_simp; try rfl
      ((try simp only [Act.put]); (try simp only [List.setIfInBounds_toArray]); (try simp only [List.set_cons_succ]); (try simp only [List.set_cons_zero]))
      refine wpAnyT_take (i := 3) (v := ?v3) rfl (by kernel_rfl) (fun _ _ _ h => h) (by rfl) (fun w hSw => ?y3) hS ?_
      case y3 => obtain ⟨x0, x1, x2⟩ := hSw; go_simp; try rfl
      ((try simp only [Act.put]); (try simp only [List.setIfInBounds_toArray]); (try simp only [List.set_cons_succ]); (try simp only [List.set_cons_zero]))
      refine wpAnyT_take (i := 4) (v := ?v4) rfl (by kernel_rfl) (fun _ _ _ h => h) (by rfl) (fun w hSw => ?y4) hS ?_
      case y4 => obtain ⟨x0, x1, x2⟩ := hSw; go_simp; try rfl
      ((try simp only [Act.put]); (try simp only [List.setIfInBounds_toArray]); (try simp only [List.set_cons_succ]); (try simp only [List.set_cons_zero]))
      refine wpAnyT_take (i := 5) (v := ?v5) rfl (by kernel_rfl) (fun _ _ _ h => h) (by rfl) (fun w hSw => ?y5) hS ?_
      case y5 => obtain ⟨x0, x1, x2⟩ := hSw; go_simp; try rfl
      ((try simp only [Act.put]); (try simp only [List.setIfInBounds_toArray]); (try simp only [List.set_cons_succ]); (try simp only [List.set_cons_zero]))
      refine wpAnyT_take (i := 6) (v := ?v6) rfl (by kernel_rfl) (fun _ _ _ h => h) (by rfl) (fun w hSw => ?y6) hS ?_
      case y6 => obtain ⟨x0, x1, x2⟩ := hSw; go_simp; try rfl
      ((try simp only [Act.put]); (try simp only [List.setIfInBounds_toArray]); (try simp only [List.set_cons_succ]); (try simp only [List.set_cons_zero]))
      refine wpAnyT_take (i := 8) (v := ?v8) rfl (by kernel_rfl) (fun _ _ _ h => h) (by rfl) (fun w hSw => ?y8) hS ?_
      case y8 => obtain ⟨x0, x1, x2⟩ := hSw; go_simp; try rfl
      ((try simp only [Act.put]); (try simp only [List.setIfInBounds_toArray]); (try simp only [List.set_cons_succ]); (try simp only [List.set_cons_zero]))
      refine wpAnyT_take (i := 9) (v := ?v9) rfl (by kernel_rfl) (fun _ _ _ h => h) (by rfl) (fun w hSw => ?y9) hS ?_
      case y9 => obtain ⟨x0, x1, x2⟩ := hSw; go_simp; try rfl
      ((try simp only [Act.put]); (try simp only [List.setIfInBounds_toArray]); (try simp only [List.set_cons_succ]); (try simp only [List.set_cons_zero]))
      refine wpAnyT_one (i := 7) rfl (by kernel_rfl) (fun K hK => ?_)
      go_simp
      refine (cloneLabel_any a.lA a.ln a.lc a.lab W.drew B (by show B ≤ W.heap.size; omega) hok2.out.lab hl1).mono ?_
      rintro e w1 ⟨v1, rfl, hown1, hb1⟩
      obtain ⟨A1, c1, rfl, _, _⟩ := own_sl hown1 (by omega)
      have e1 : Below W.heap.size W w1 := ((Below.refl W.heap.size W).drew).trans (hb1.mono (by simp))
      have z1 := e1.size
      have S1 : (fun w' : World => w'.cell? ⟨w.heap.size + 1 + 1, 0, none⟩ = some v ∧ w'.cell? ⟨wr.heap.size, 0, none⟩ = some (.slice a.lA a.ln a.lc) ∧ w'.cell? ⟨wr.heap.size, 1, none⟩ = some (.slice a.oA a.on a.oc)) w1 :=
        ⟨(e1.cell (p := ⟨w.heap.size + 1 + 1, 0, none⟩) (by simp; omega)).trans s0, (e1.cell (p := ⟨wr.heap.size, 0, none⟩) (by simp; omega)).trans s1, (e1.cell (p := ⟨wr.heap.size, 1, none⟩) (by simp; omega)).trans s2⟩
      refine hK _ _ (fun _ => S1) ?_
      clear hK K
      refine wpAnyT_one (i := 10) rfl (by kernel_rfl) (fun K hK => ?_)
      go_simp
      refine (cloneLabel_any a.oA a.on a.oc a.own _ B (by omega) (hok2.out.own.below (e1.mono (by omega))) hl2).mono ?_
      rintro e w2 ⟨v2, rfl, hown2, hb2⟩
      obtain ⟨A2, c2, rfl, _, _⟩ := own_sl hown2 (by omega)
      have e2 : Below W.heap.size W w2 := e1.trans (hb2.mono (by omega))
      have z2 := e2.size
      have S2 : (fun w' : World => w'.cell? ⟨w.heap.size + 1 + 1, 0, none⟩ = some v ∧ w'.cell? ⟨wr.heap.size, 0, none⟩ = some (.slice a.lA a.ln a.lc) ∧ w'.cell? ⟨wr.heap.size, 1, none⟩ = some (.slice a.oA a.on a.oc)) w2 :=
        ⟨(e2.cell (p := ⟨w.heap.size + 1 + 1, 0, none⟩) (by simp; omega)).trans s0, (e2.cell (p := ⟨wr.heap.size, 0, none⟩) (by simp; omega)).trans s1, (e2.cell (p := ⟨wr.heap.size, 1, none⟩) (by simp; omega)).trans s2⟩
      refine hK _ _ (fun _ => S2) ?_
      clear hK K
      refine wpAnyT_one (i := 11) rfl (by kernel_rfl) (fun K hK => ?_)
      go_simp
      refine (postNew_any w2).mono ?_
      rintro e w3 ⟨rfl, hw3⟩
      have e3 : Below w2.heap.size w2 w3 := by rw [hw3]; exact ((Below.refl _ _).alloc (Nat.le_refl _) _).alloc (by simp) _
      have x3 : w2.heap.size + 2 ≤ w3.heap.size := by rw [hw3]; simp
      have y3 : w3.heap[w2.heap.size]? = some (.chan 16 #[] false 0 0 false) := by rw [hw3, heap_old _ _ _ (by simp), heap_at _ _ _ rfl]
      have y4 : w3.heap[w2.heap.size + 1]? = some (.cells #[.chan (some w2.heap.size), .slice none 0 0] 120) := by rw [hw3, heap_at _ _ _ (by simp)]
      clear hw3
      have f3 : Below W.heap.size W w3 := e2.trans (e3.mono (by omega))
      have S3 : (fun w' : World => w'.cell? ⟨w.heap.size + 1 + 1, 0, none⟩ = some v ∧ w'.cell? ⟨wr.heap.size, 0, none⟩ = some (.slice a.lA a.ln a.lc) ∧ w'.cell? ⟨wr.heap.size, 1, none⟩ = some (.slice a.oA a.on a.oc)) w3 :=
        ⟨(f3.cell (p := ⟨w.heap.size + 1 + 1, 0, none⟩) (by simp; omega)).trans s0, (f3.cell (p := ⟨wr.heap.size, 0, none⟩) (by simp; omega)).trans s1, (f3.cell (p := ⟨wr.heap.size, 1, none⟩) (by simp; omega)).trans s2⟩
      refine hK _ _ (fun _ => S3) ?_
      clear hK K
      refine wpAnyT_take (i := 12) (v := ?v12) rfl (by kernel_rfl) (fun _ _ _ h => h) (by rfl) (fun w hSw => ?y12) S3 ?_
      case y12 => clear hSw; go_simp; try rfl
      ((try simp only [Act.put]); (try simp only [List.setIfInBounds_toArray]); (try simp only [List.set_cons_succ]); (try simp only [List.set_cons_zero]))
      refine wpAnyT_one (i := 13) rfl (by kernel_rfl) (fun K hK => ?_)
      go_simp
      have S4 : ∀ o, (fun w' : World => w'.cell? ⟨w.heap.size + 1 + 1, 0, none⟩ = some v ∧ w'.cell? ⟨wr.heap.size, 0, none⟩ = some (.slice a.lA a.ln a.lc) ∧ w'.cell? ⟨wr.heap.size, 1, none⟩ = some (.slice a.oA a.on a.oc)) (w3.alloc o) :=
        fun o => ⟨(World.cell?_alloc_lt w3 o _ (by simp; omega)).trans S3.1, (World.cell?_alloc_lt w3 o _ (by simp; omega)).trans S3.2.1, (World.cell?_alloc_lt w3 o _ (by simp; omega)).trans S3.2.2⟩
      refine hK _ _ (fun _ => S4 _) ?_
      clear hK K
      refine wpAnyT_one (i := 14) rfl (by kernel_rfl) (fun K hK => ?_)
      refine step_push T_sessions rfl (.tmp 51) (.tmp 60) rfl (v := v) (W := w3) (cs := #[.slice A1 a.lab.length c1, .slice A2 a.own.length c2, .pointer (some ⟨w2.heap.size + 1, 0, none⟩)]) rfl rfl (own_below HW.out (W0.trans (f3.mono (by omega)))) rfl ?_ ?_ ?_ ?_ ?_
      · intro u hu; simp at hu; rcases hu with rfl | rfl | rfl <;> rfl
      · have := HLn.out; omega
      · have := HLn.out; unfold maxLen; omega
      · omega
      intro v' w4 hown4 hb4 hs4 hg4
      obtain ⟨A4, c4, rfl, _, _⟩ := own_sl hown4 (by have := HLn.out; omega)
      have r0 := (hb4.cell (p := ⟨w.heap.size + 1 + 1, 0, none⟩) (Nat.lt_succ_self _)).trans S3.1
      have gk := hg4.block wr.heap.size (by omega) (fun e => by have := (HW.out.lt _ e.symm).2; omega)
      have r3 : w4.frozen? ⟨w.heap.size + 1 + 1, 0, none⟩ = false := ((hb4.frozen (p := ⟨w.heap.size + 1 + 1, 0, none⟩) (Nat.lt_succ_self _)).trans ((f3.frozen (p := ⟨w.heap.size + 1 + 1, 0, none⟩) (by simp; omega)).trans HF.out))
      refine hK _ _ (fun _ => ⟨r0, (World.cell?_of_block (a := ⟨wr.heap.size, 0, none⟩) gk).trans S3.2.1, (World.cell?_of_block (a := ⟨wr.heap.size, 1, none⟩) gk).trans S3.2.2⟩) ?_
      clear hK K
      refine wpAnyT_one (i := 15) rfl (by kernel_rfl) (fun K hK => ?_)
      go_simp
      refine hK _ _ (fun h => absurd h (by omega)) ?_
      clear hK K
      refine wpAnyT_one (i := 16) rfl (by kernel_rfl) (fun K hK => ?_)
      go_simp
      refine hK _ _ (fun h => absurd h (by omega)) ?_
      clear hK K
      refine wpAnyT_one (i := 17) rfl (by kernel_rfl) (fun K hK => ?_)
      go_simp
      refine hK _ _ (fun h => absurd h (by omega)) ?_
      clear hK K
      refine wpAnyT_done (by kernel_rfl) ?_ _
      have wr3 : Below wr.heap.size wr w3 := W0.trans (f3.mono (by omega))
      have HRow : ∀ k, v.ownBlock = some k → ∃ cs fr, w3.heap[k]? = some (.cells cs 88 fr) := own_is_row (own_below HW.out wr3)
      have new3 : (⟨.slice A1 a.lab.length c1, a.lab, .slice A2 a.own.length c2, a.own, w2.heap.size + 1, [], []⟩ : Ss).Ok w3 (w.heap.size + 1 + 1 + 1) :=
        ⟨own_mono (own_below hown1 (hb2.trans (e3.mono hb2.size))) (by show _ ≤ W.heap.size; omega), own_mono (own_below hown2 e3) (by omega),
          ⟨by show _ ≤ w2.heap.size + 1; omega, w2.heap.size, _, 0, 0, y4, by omega, y3, World.ownsRow_nil _ _ _ _⟩, m1.out⟩
      have hK5 : KernIs (w4.setCell ⟨w.heap.size + 1 + 1, 0, none⟩ (.slice A4 (l.length + 1) c4)) (w.heap.size + 1 + 1) (w.heap.size + 1 + 1 + 1) (l ++ [⟨.slice A1 a.lab.length c1, a.lab, .slice A2 a.own.length c2, a.own, w2.heap.size + 1, [], []⟩]) := by
        refine ⟨by omega, ⟨_, m, heap_setCell_same w4 _ 0 _ _ _ (((hb4.block _ (by omega)).trans (wr3.block _ (by omega))).trans HKB.out), HM.out, ?_, ?_⟩, fun s hs => ?_⟩
        · rw [heap_setCell_other _ _ _ _ (by have := HM.out; show m ≠ w.heap.size + 1 + 1; omega)]
          exact ((hb4.block m (by have := HM.out; omega)).trans (wr3.block m (by have := HM.out; omega))).trans HMM.out
        · rw [flat_append, List.length_append]
          exact ownsRow_setCell_below hown4 (by show w.heap.size + 1 + 1 < _; omega) _
        · rcases List.mem_append.1 hs with hs | hs
          · exact (((hK2.out.each s hs).below wr3).grown hg4 HRow).setCell (by show w.heap.size + 1 + 1 < _; omega) _
          · obtain rfl := List.mem_singleton.1 hs
            exact (new3.grown hg4 HRow).setCell (by show w.heap.size + 1 + 1 < _; omega) _
      have hN5 : Hid (Ss.news (l ++ [⟨.slice A1 a.lab.length c1, a.lab, .slice A2 a.own.length c2, a.own, w2.heap.size + 1, [], []⟩]) (si.take (k + 1))) := by
        show List.map _ _ = List.map _ _
        have h0 := HN.out
        unfold Ss.news at h0
        rw [take_next HA.out, List.map_append, List.map_append, h0]
        rfl
      have hB5 : Below w.heap.size w (w4.setCell ⟨w.heap.size + 1 + 1, 0, none⟩ (.slice A4 (l.length + 1) c4)) :=
        ((hnx.trans (wr3.mono (by omega))).trans (hb4.mono (by omega))).setCell (by show _ ≤ w.heap.size + 1 + 1; omega) _
      have hz5 : w.heap.size + 3 ≤ (w4.setCell ⟨w.heap.size + 1 + 1, 0, none⟩ (.slice A4 (l.length + 1) c4)).heap.size := by simp [World.setCell]; omega
      go_wp2
      go_roundw
      case rel => exact ⟨k + 1, _, by omega, by go_num, hK5, hN5.out, hB5, hz5⟩
      case measure => simp [intOf]; omega
    · have hkn : k = n := by omega
      subst hkn
      have hnw2 := HN.out
      rw [List.take_of_length_le (by have := HL.out; omega)] at hnw2
      have HN2 := Lib.hid hnw2
      clear hnw2
      go_wp2
      go_ret2
      exact ⟨_, _, rfl, by omega, hK, HN2.out, hnx⟩
end Go.Proofs.YtacldkanfjaiiaaGreatDoor
