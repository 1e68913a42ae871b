/- Rows: two lists of values, two lists of rows, a reply held against itself. -/
import Derived.Test.YtacldkanfjaiiaaGreatDoorC
namespace Go.Proofs.YtacldkanfjaiiaaGreatDoor
open Go.RowKit
set_option maxRecDepth 100000

/-- a value: its kind, its number, its text -/
structure Vl where
  kind : Int
  num : Int
  text : ByteArray
def Vl.cells (v : Vl) : List Value := [.int .i64 v.kind, .int .i64 v.num, .string v.text]
def Vs (vs : List Vl) : List Value := vs.flatMap Vl.cells
theorem Vl.cells_len (v : Vl) : v.cells.length = 3 := rfl

set_option maxHeartbeats 400000 in
theorem sameRow_self (A : Option Addr) (n c c' : Nat) (vs : List Vl) (w : World) (B : Nat) (h : Sl w B 3 A n (Vs vs)) :
    Calls Tryz.prog 37 #[.slice A n c, .slice A n c'] w fun e w' => e = .returned (.bool true) ∧ ∃ d, w' = w.drewN d := by
  have hn := h.2.1
  go_enter Tryz.func37, Tryz.ntmps37
  go_wp2
  go_loopw [5] (fun i wr => (∃ d, wr = w.drewN d) ∧ ∃ k : Nat, k ≤ n ∧ i = .int .i64 k) (fun i _ => n - (intOf i).toNat)
  case atStart => exact ⟨⟨0, rfl⟩, 0, by omega, rfl⟩
  case round =>
    obtain ⟨⟨d, rfl⟩, k, hk, rfl⟩ := hrel
    by_cases hlt : k < n
    · obtain ⟨b, off, a, rfl, hb, ha, hc⟩ := Sl.elem (f := Vl.cells) (m := 3) (fun _ => rfl) (by omega) h hlt
      have h0 : w.cell? ⟨b, off + k * 3, none⟩ = some (.int .i64 a.kind) := hc 0 (by omega)
      have h1 : w.cell? ⟨b, off + k * 3 + 1, none⟩ = some (.int .i64 a.num) := hc 1 (by omega)
      have h2 : w.cell? ⟨b, off + k * 3 + 2, none⟩ = some (.string a.text) := hc 2 (by omega)
      clear hc
      go_wp2
      go_quiet (fail)
      go_wp2
      go_roundw
      case rel => exact ⟨⟨_, rfl⟩, k + 1, by omega, by go_num⟩
      case measure => simp [intOf]; omega
    · go_wp2
      go_ret
      exact ⟨rfl, _, rfl⟩

/-- rows: each a list of values, behind a slice -/
structure Rw where
  A : Option Addr
  n : Nat
  c : Nat
  vs : List Vl
def Rw.cells (r : Rw) : List Value := [.slice r.A r.n r.c]
def Rw.Ok (w : World) (B : Nat) (r : Rw) : Prop := Sl w B 3 r.A r.n (Vs r.vs)
theorem Rw.Ok.below {w w' : World} {B : Nat} {r : Rw} (h : r.Ok w B) (hb : Below B w w') : r.Ok w' B := Sl.below h hb
theorem Rw.Ok.drewN {w : World} {B : Nat} {r : Rw} (h : r.Ok w B) (d : Nat) : r.Ok (w.drewN d) B := h

set_option maxHeartbeats 400000 in
theorem sameRows_self (A : Option Addr) (n c c' : Nat) (rs : List Rw) (w : World) (B : Nat) (h : Sl w B 1 A n (rs.flatMap Rw.cells)) (hr : ∀ r ∈ rs, r.Ok w B) :
    Calls Tryz.prog 24 #[.slice A n c, .slice A n c'] w fun e w' => e = .returned (.bool true) ∧ ∃ d, w' = w.drewN d := by
  have hn := h.2.1
  have HR := Lib.hid hr
  clear hr
  go_enter Tryz.func24, Tryz.ntmps24
  go_wp2
  go_loopw [5] (fun i wr => (∃ d, wr = w.drewN d) ∧ ∃ k : Nat, k ≤ n ∧ i = .int .i64 k) (fun i _ => n - (intOf i).toNat)
  case atStart => exact ⟨⟨0, rfl⟩, 0, by omega, rfl⟩
  case round =>
    obtain ⟨⟨d, rfl⟩, k, hk, rfl⟩ := hrel
    by_cases hlt : k < n
    · obtain ⟨b, off, a, rfl, hb, ha, hc⟩ := Sl.elem (f := Rw.cells) (m := 1) (fun _ => rfl) (by omega) h hlt
      have h0 : w.cell? ⟨b, off + k, none⟩ = some (.slice a.A a.n a.c) := by have := hc 0 (by omega); simpa [Rw.cells] using this
      have hok := Lib.hid (HR.out a (List.mem_of_getElem? ha))
      clear hc ha
      go_wp2
      go_quiet ((go_at_call 37; exact quiet_more (sameRow_self a.A a.n a.c a.c a.vs _ B (Rw.Ok.drewN hok.out _))))
      go_wp2
      go_roundw
      case rel => exact ⟨⟨_, rfl⟩, k + 1, by omega, by go_num⟩
      case measure => simp [intOf]; omega
    · go_wp2
      go_ret
      exact ⟨rfl, _, rfl⟩

set_option maxHeartbeats 400000 in
theorem refCompare_self (A : Option Addr) (n c c' : Nat) (ts : List Nat) (w : World) (B : Nat) (h : Sl w B 1 A n (Us ts)) :
    Calls Tryz.prog 36 #[.slice A n c, .slice A n c'] w fun e w' => e = .returned (.int .i64 0) ∧ ∃ d, w' = w.drewN d := by
  have hn := h.2.1
  go_enter Tryz.func36, Tryz.ntmps36
  go_wp2
  go_loopw [5] (fun i wr => (∃ d, wr = w.drewN d) ∧ ∃ k : Nat, k ≤ n ∧ i = .int .i64 k) (fun i _ => n - (intOf i).toNat)
  case atStart => exact ⟨⟨0, rfl⟩, 0, by omega, rfl⟩
  case round =>
    obtain ⟨⟨d, rfl⟩, k, hk, rfl⟩ := hrel
    by_cases hlt : k < n
    · obtain ⟨b, off, rfl, hb, hc, hl⟩ := h.tag hlt
      go_wp2
      go_quiet (fail)
      go_wp2
      go_quiet (fail)
      go_wp2
      go_roundw
      case rel => exact ⟨⟨_, rfl⟩, k + 1, by omega, by go_num⟩
      case measure => simp [intOf]; omega
    · go_wp2
      go_ret
      exact ⟨rfl, _, rfl⟩

set_option maxHeartbeats 400000 in
theorem refSame_self (A : Option Addr) (n c c' : Nat) (ts : List Nat) (w : World) (B : Nat) (h : Sl w B 1 A n (Us ts)) :
    Calls Tryz.prog 23 #[.slice A n c, .slice A n c'] w fun e w' => e = .returned (.bool true) ∧ ∃ d, w' = w.drewN d := by
  go_enter Tryz.func23, Tryz.ntmps23
  go_wp2_with (go_at_call 36; refine (refCompare_self A n c c' ts _ B h).mono ?_; rintro e w' ⟨rfl, d, rfl⟩)
  go_ret
  exact ⟨rfl, _, rfl⟩

/-- a reply: its seven fields -/
structure Rp where
  s : Int
  lA : Option Addr
  ln : Nat
  lc : Nat
  lab : List Nat
  err : Int
  pos : Int
  rA : Option Addr
  rn : Nat
  rc : Nat
  rows : List Rw
  cnt : Int
  wrote : Int
def Rp.cells (r : Rp) : List Value := [.int .i64 r.s, .slice r.lA r.ln r.lc, .int .i64 r.err, .int .i64 r.pos, .slice r.rA r.rn r.rc, .int .i64 r.cnt, .int .u64 r.wrote]
def Rp.val (r : Rp) : Value := .agg #[.int .i64 r.s, .slice r.lA r.ln r.lc, .int .i64 r.err, .int .i64 r.pos, .slice r.rA r.rn r.rc, .int .i64 r.cnt, .int .u64 r.wrote]
structure Rp.Ok (w : World) (B : Nat) (r : Rp) : Prop where
  lab : Sl w B 1 r.lA r.ln (Us r.lab)
  rows : Sl w B 1 r.rA r.rn (r.rows.flatMap Rw.cells)
  each : ∀ x ∈ r.rows, x.Ok w B
theorem Rp.Ok.below {w w' : World} {B : Nat} {r : Rp} (h : r.Ok w B) (hb : Below B w w') : r.Ok w' B := ⟨h.lab.below hb, h.rows.below hb, fun x hx => (h.each x hx).below hb⟩
theorem Rp.Ok.drewN {w : World} {B : Nat} {r : Rp} (h : r.Ok w B) (d : Nat) : r.Ok (w.drewN d) B := ⟨h.lab, h.rows, h.each⟩

set_option maxHeartbeats 1000000 in
theorem sameReply_self (r : Rp) (w : World) (B : Nat) (hB : B ≤ w.heap.size) (h : r.Ok w B) :
    Calls Tryz.prog 14 #[.agg #[.int .i64 r.s, .slice r.lA r.ln r.lc, .int .i64 r.err, .int .i64 r.pos, .slice r.rA r.rn r.rc, .int .i64 r.cnt, .int .u64 r.wrote], .agg #[.int .i64 r.s, .slice r.lA r.ln r.lc, .int .i64 r.err, .int .i64 r.pos, .slice r.rA r.rn r.rc, .int .i64 r.cnt, .int .u64 r.wrote]] w fun e w' => e = .returned (.bool true) ∧ Below w.heap.size w w' := by
  go_enter Tryz.func14, Tryz.ntmps14
  go_wp2_with fail
  refine (refSame_self r.lA r.ln r.lc r.lc r.lab _ B ((h.lab.alloc hB _).alloc (by simp; omega) _)).mono ?_
  rintro e w' ⟨rfl, d, rfl⟩
  go_wp2_with fail
  refine (sameRows_self r.rA r.rn r.rc r.rc r.rows _ B (((h.rows.alloc hB _).alloc (by simp; omega) _).drewN _) (fun x hx => (((h.each x hx).alloc hB _).alloc (by simp; omega) _).drewN _)).mono ?_
  rintro e w' ⟨rfl, d', rfl⟩
  go_wp2
  go_ret
  refine ⟨rfl, ?_⟩
  refine below_drewN ?_ _
  exact ((Below.refl _ _).alloc (Nat.le_refl _) _).alloc (by simp) _

theorem T_replies : SliceTy Tryz.prog 24 31 7 88 := SliceTy.mk' (z := .agg #[.int .i64 0, .slice none 0 0, .int .i64 0, .int .i64 0, .slice none 0 0, .int .i64 0, .int .u64 0]) Tryz.underlying24 (by kernel_rfl) rfl (by omega)

set_option maxHeartbeats 1000000 in
theorem sameReplies_self (A : Option Addr) (n c : Nat) (A' : Option Addr) (c' : Nat) (rs : List Rp) (w : World) (B : Nat) (hB : B ≤ w.heap.size) (h : Sl w B 7 A n (rs.flatMap Rp.cells)) (h' : Sl w B 7 A' n (rs.flatMap Rp.cells)) (hr : ∀ r ∈ rs, r.Ok w B) :
    Calls Tryz.prog 8 #[.slice A n c, .slice A' n c'] w fun e w' => e = .returned (.bool true) ∧ Below w.heap.size w w' := by
  have hn := h.2.1
  have HR := Lib.hid hr
  clear hr
  go_enter Tryz.func8, Tryz.ntmps8
  go_wp2
  go_loopw [5] (fun i wr => Below w.heap.size w wr ∧ ∃ k : Nat, k ≤ n ∧ i = .int .i64 k) (fun i _ => n - (intOf i).toNat)
  case atStart => exact ⟨Below.refl _ _, 0, by omega, rfl⟩
  case round =>
    obtain ⟨hnx, k, hk, rfl⟩ := hrel
    by_cases hlt : k < n
    · obtain ⟨b, off, a, rfl, hb, ha, hc⟩ := Sl.elem (f := Rp.cells) (m := 7) (fun _ => rfl) (by omega) (h.below (hnx.mono hB)) hlt
      obtain ⟨b', off', a', rfl, hb', ha', hc'⟩ := Sl.elem (f := Rp.cells) (m := 7) (fun _ => rfl) (by omega) (h'.below (hnx.mono hB)) hlt
      obtain rfl : a = a' := by rw [ha] at ha'; injection ha'
      have hok := Lib.hid ((HR.out a (List.mem_of_getElem? ha)).below (hnx.mono hB))
      have hsz := hnx.size
      have f0 : wr.cell? ⟨b, off + k * 7, none⟩ = some (.int .i64 a.s) := hc 0 (by omega)
      have f1 : wr.cell? ⟨b, off + k * 7 + 1, none⟩ = some (.slice a.lA a.ln a.lc) := hc 1 (by omega)
      have f2 : wr.cell? ⟨b, off + k * 7 + 2, none⟩ = some (.int .i64 a.err) := hc 2 (by omega)
      have f3 : wr.cell? ⟨b, off + k * 7 + 3, none⟩ = some (.int .i64 a.pos) := hc 3 (by omega)
      have f4 : wr.cell? ⟨b, off + k * 7 + 4, none⟩ = some (.slice a.rA a.rn a.rc) := hc 4 (by omega)
      have f5 : wr.cell? ⟨b, off + k * 7 + 5, none⟩ = some (.int .i64 a.cnt) := hc 5 (by omega)
      have f6 : wr.cell? ⟨b, off + k * 7 + 6, none⟩ = some (.int .u64 a.wrote) := hc 6 (by omega)
      have g0 : wr.cell? ⟨b', off' + k * 7, none⟩ = some (.int .i64 a.s) := hc' 0 (by omega)
      have g1 : wr.cell? ⟨b', off' + k * 7 + 1, none⟩ = some (.slice a.lA a.ln a.lc) := hc' 1 (by omega)
      have g2 : wr.cell? ⟨b', off' + k * 7 + 2, none⟩ = some (.int .i64 a.err) := hc' 2 (by omega)
      have g3 : wr.cell? ⟨b', off' + k * 7 + 3, none⟩ = some (.int .i64 a.pos) := hc' 3 (by omega)
      have g4 : wr.cell? ⟨b', off' + k * 7 + 4, none⟩ = some (.slice a.rA a.rn a.rc) := hc' 4 (by omega)
      have g5 : wr.cell? ⟨b', off' + k * 7 + 5, none⟩ = some (.int .i64 a.cnt) := hc' 5 (by omega)
      have g6 : wr.cell? ⟨b', off' + k * 7 + 6, none⟩ = some (.int .u64 a.wrote) := hc' 6 (by omega)
      clear hc hc' ha ha'
      go_wp2
      go_still_tail 8, (by kernel_rfl)
      change wpList _ _ _ _ _ wr.drew
      have hok2 : a.Ok wr.drew B := ⟨hok.out.lab, hok.out.rows, hok.out.each⟩
      go_wp2_with fail
      refine (sameReply_self a _ B (by simp; omega) hok2).mono ?_
      rintro e w1 ⟨rfl, hb1⟩
      have hb2 : Below w.heap.size w w1 := hnx.drew.trans (hb1.mono (by simp; omega))
      clear hb1
      go_wp2
      go_roundw
      case rel => exact ⟨hb2, k + 1, by omega, by go_num⟩
      case measure => simp [intOf]; omega
    · go_wp2
      go_ret
      exact ⟨rfl, hnx⟩
end Go.Proofs.YtacldkanfjaiiaaGreatDoor
