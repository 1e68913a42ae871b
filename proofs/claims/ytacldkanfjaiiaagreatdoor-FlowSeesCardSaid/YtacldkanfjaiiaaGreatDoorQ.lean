/- begun of the law's folder 29. -/
import Derived.Test.YtacldkanfjaiiaaGreatDoorP
namespace Go.Proofs.YtacldkanfjaiiaaGreatDoor
open Go.RowKit
set_option maxRecDepth 100000

theorem sl_row {w : World} {b e sz n : Nat} {cs : Array Value} (h : w.heap[b]? = some (.cells cs e (0, 0))) (hcs : cs.toList.length = n * sz) (hn : n ≤ 9223372036854775807) : Sl w w.heap.size sz (some ⟨b, 0, none⟩) n cs.toList := by
  refine ⟨hcs, hn, fun _ => ⟨b, 0, rfl, (Array.getElem?_eq_some_iff.1 h).1, fun j u hj => ?_⟩⟩
  rw [Nat.zero_add, cell_of_row w b j _ _ _ h]
  simpa using hj

def noRp : Rp := ⟨0, none, 0, 0, [], 0, 0, none, 0, 0, [], 0, 0⟩
theorem noRp_ok (w : World) (B : Nat) : noRp.Ok w B := ⟨Sl.nil_, Sl.nil_, fun x hx => by simp [noRp] at hx⟩
def oneRp (b : Nat) : Rp := ⟨0, some ⟨b, 0, none⟩, 1, 1, [1], 0, 0, none, 0, 0, [], 0, 0⟩
theorem oneRp_ok {w : World} {b : Nat} (h : w.heap[b]? = some (.cells #[.int .u16 1] 39 (0, 0))) : (oneRp b).Ok w w.heap.size := ⟨sl_row h rfl (by simp [oneRp]), Sl.nil_, fun x hx => by simp [oneRp] at hx⟩
def si0 : Si := ⟨none, 0, 0, [], none, 0, 0, []⟩
def si1 (b : Nat) : Si := ⟨some ⟨b, 0, none⟩, 1, 1, [1], none, 0, 0, []⟩

set_option maxHeartbeats 2000000 in
theorem begun29_any (w : World) :
    Calls Tryz.prog 4 #[] w fun e w' => e = .returned (.bool true) ∧ Below w.heap.size w w' := by
  go_enter Tryz.func4, Tryz.ntmps4
  go_wp2_with fail
  obtain ⟨X, hX⟩ : ∃ X : World, ((((w.alloc (.cells #[.int .u16 1] 39)).alloc (.cells #[.slice none 0 0, .slice none 0 0, .slice (some ⟨w.heap.size, 0, none⟩) 1 1, .slice none 0 0] 38)).alloc
    (.cells #[.slice (some ⟨w.heap.size + 1, 0, none⟩) 2 2, .int .i64 5] 42)).alloc (.cells #[.int .i64 2, .int .i64 0, .string ⟨#[]⟩, .int .i64 2, .int .i64 1, .string ⟨#[]⟩] 46)) = X := ⟨_, rfl⟩
  have h0 : X.heap[w.heap.size]? = some (.cells #[.int .u16 1] 39 (0, 0)) := by
    rw [← hX, heap_old _ _ _ (by simp; try omega), heap_old _ _ _ (by simp; try omega), heap_old _ _ _ (by simp; try omega), heap_at _ _ _ rfl]
  have h1 : X.heap[w.heap.size + 1]? = some (.cells #[.slice none 0 0, .slice none 0 0, .slice (some ⟨w.heap.size, 0, none⟩) 1 1, .slice none 0 0] 38 (0, 0)) := by
    rw [← hX, heap_old _ _ _ (by simp; try omega), heap_old _ _ _ (by simp; try omega), heap_at _ _ _ (by simp; try omega)]
  have h3 : X.heap[w.heap.size + 1 + 1 + 1]? = some (.cells #[.int .i64 2, .int .i64 0, .string ⟨#[]⟩, .int .i64 2, .int .i64 1, .string ⟨#[]⟩] 46 (0, 0)) := by
    rw [← hX, heap_at _ _ _ (by simp; try omega)]
  have hb : Below w.heap.size w X := by
    rw [← hX]; exact ((((Below.refl _ _).alloc (Nat.le_refl _) _).alloc (by simp) _).alloc (by simp; try omega) _).alloc (by simp; try omega) _
  have hz : X.heap.size = w.heap.size + 4 := by rw [← hX]; simp
  rw [hX]
  have hs1 := oneRp_ok h0
  refine (purge2_any X X.heap.size (w.heap.size + 1 + 1 + 1) (some ⟨w.heap.size + 1, 0, none⟩) 2 5 si0 (si1 w.heap.size) none 0 0 [] (Nat.le_refl _) (sl_row h1 rfl (by omega)) (fun s hs => ?_) (by omega) (by omega) Sl.nil_ rfl rfl (fun k hk => ?_) (by omega)).mono ?_
  · simp at hs
    rcases hs with rfl | rfl
    · exact ⟨Sl.nil_, Sl.nil_, rfl, rfl⟩
    · exact ⟨hs1.lab, Sl.nil_, rfl, rfl⟩
  · rcases Nat.lt_or_ge k 1 with h | h
    · obtain rfl : k = 0 := by omega
      exact ⟨cell_of_row X _ 0 _ _ _ h3, cell_of_row X _ 1 _ _ _ h3, cell_of_row X _ 2 _ _ _ h3⟩
    · obtain rfl : k = 1 := by omega
      exact ⟨cell_of_row X _ 3 _ _ _ h3, cell_of_row X _ 4 _ _ _ h3, cell_of_row X _ 5 _ _ _ h3⟩
  rintro e w1 ⟨v, rfl, hown, hb1⟩
  obtain ⟨A1, c1, rfl, _, _⟩ := own_sl hown (by omega)
  have hb2 := hb.trans (hb1.mono hb.size)
  clear hown hb1 hs1 h0 h1 h3 hz hb hX
  go_wp2_with fail
  refine (sees_any noRp none 0 0 [] w1 0 (Nat.zero_le _) Sl.nil_ (noRp_ok _ _) (by simp [noRp])).mono ?_
  rintro e w2 ⟨rfl, hb3⟩
  have hb4 := hb2.trans (hb3.mono hb2.size)
  clear hb2 hb3
  have ht : flowsB noRp.lab [] = true := rfl
  rw [ht]
  go_wp2_with fail
  obtain ⟨Y, hY⟩ : ∃ Y : World, ((w2.alloc (.cells #[.int .u16 1] 39)).alloc (.cells #[.int .i64 0, .slice (some ⟨w2.heap.size, 0, none⟩) 1 1, .int .i64 0, .int .i64 0, .slice none 0 0, .int .i64 0, .int .u64 0, .int .i64 0, .slice none 0 0, .int .i64 0, .int .i64 0, .slice none 0 0, .int .i64 0, .int .u64 0] 31)) = Y := ⟨_, rfl⟩
  have h0 : Y.heap[w2.heap.size]? = some (.cells #[.int .u16 1] 39 (0, 0)) := by rw [← hY, heap_old _ _ _ (by simp; try omega), heap_at _ _ _ rfl]
  have h1 : Y.heap[w2.heap.size + 1]? = some (.cells #[.int .i64 0, .slice (some ⟨w2.heap.size, 0, none⟩) 1 1, .int .i64 0, .int .i64 0, .slice none 0 0, .int .i64 0, .int .u64 0, .int .i64 0, .slice none 0 0, .int .i64 0, .int .i64 0, .slice none 0 0, .int .i64 0, .int .u64 0] 31 (0, 0)) := by rw [← hY, heap_at _ _ _ (by simp; try omega)]
  have hb5 : Below w.heap.size w Y := by
    rw [← hY]; exact (hb4.alloc hb4.size _).alloc (by have := hb4.size; simp; omega) _
  rw [hY]
  refine (seen_any (some ⟨w2.heap.size + 1, 0, none⟩) 2 2 [oneRp w2.heap.size, noRp] none 0 0 [] Y Y.heap.size (Nat.le_refl _) (sl_row h1 rfl (by omega)) Sl.nil_ (by omega) (fun r hr => ?_)).mono ?_
  · simp at hr
    rcases hr with rfl | rfl
    · exact ⟨oneRp_ok h0, by simp [oneRp]⟩
    · exact ⟨noRp_ok _ _, by simp [noRp]⟩
  rintro e w3 ⟨v, rfl, hown, hb6⟩
  have hl : (seenL [] [oneRp w2.heap.size, noRp]).length = 1 := rfl
  rw [hl] at hown
  obtain ⟨A2, c2, rfl, _, _⟩ := own_sl hown (by omega)
  have hb7 := hb5.trans (hb6.mono hb5.size)
  clear hown hb6 hb5 hb4 hl h0 h1 hY
  go_wp2
  go_ret
  exact ⟨rfl, hb7⟩
end Go.Proofs.YtacldkanfjaiiaaGreatDoor
