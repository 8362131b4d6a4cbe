/- Contract of slices.SortedFunc over slices.Values of addresses with addr.Compare: a new slice with the addresses sorted. -/
import Derived.Test.YtbilaapikclhlaaDoorOrd
namespace Go.Proofs.YtbilaapikclhlaaDoor
open Go.RowKit Go.Sort Go.Proofs Go.Shelf
set_option linter.unusedVariables false
set_option maxRecDepth 100000
set_option maxHeartbeats 4000000

def sortA (l : List Ad) : List Ad := l.mergeSort fun x y => !(ltOf cmpA) y x
theorem sortA_length (l : List Ad) : (sortA l).length = l.length := by simp [sortA]

theorem flat_at : ∀ (l : List Ad) (t : Nat), t < l.length * 2 → (l.flatMap encA)[t]? = some ((encA l[t / 2]!)[t % 2]!)
  | [], t, h => by simp at h
  | x :: r, 0, h => by simp [encA]
  | x :: r, 1, h => by simp [encA]
  | x :: r, t + 2, h => by
    have h1 := flat_at r t (by simp only [List.length_cons] at h; omega)
    have e1 : (t + 2) / 2 = t / 2 + 1 := by omega
    have e2 : (t + 2) % 2 = t % 2 := by omega
    rw [e1, e2]
    simp only [List.flatMap_cons]
    rw [List.getElem?_append_right (by simp [encA])]
    simpa [encA] using h1

theorem holds_owned {w : World} {lo : Nat} {v : Value} {l : List Ad} (h : w.ownsRow lo 23 2 v l.length (l.flatMap encA)) (hn : 0 < l.length) :
    ∃ g cap, v = .slice (some ⟨g, 0, none⟩) l.length cap ∧ l.length ≤ cap ∧ lo ≤ g ∧ g < w.heap.size ∧ HoldsK encA 2 w g 0 l.toArray := by
  have hc := fun {g : Nat} => World.ownsRow.cells (w := w) (base := lo) (e := 23) (size := 2) (v := v) (n := l.length) (xs := l.flatMap encA) h (g := g)
  have hlt := World.ownsRow.lt (w := w) (base := lo) (e := 23) (size := 2) (v := v) (n := l.length) (xs := l.flatMap encA) h
  obtain ⟨hl, h0 | ⟨g, cap, cur, hv, hb, hh, hcap, _⟩⟩ := h
  · omega
  · refine ⟨g, cap, hv, hcap, hb, (hlt g (by rw [hv]; rfl)).2, ?_⟩
    intro t ht
    rw [size_flatK] at ht
    have ht' : t < l.length * 2 := by simpa using ht
    refine ⟨?_, by simp [World.frozen?, hh]⟩
    have := hc (g := g) (by rw [hv]; rfl) t _ (flat_at l t ht')
    rw [get_flatK _ _ _ _ (by simpa using ht')]
    simpa [Addr.add_lit] using this

theorem fr_sorted (w : World) (g n : Nat) (d : Array Ad) (os : Array Obj) : Fr [g] w (sortWorldK encA 2 w g 0 n d os) := by
  refine ⟨rfl, rfl, rfl, ?_, ?_⟩
  · simp [sortWorldK, grow, putRowK, putRow, mapBlock]
  · intro k hk hn
    have hn' : g ≠ k := by simpa [eq_comm] using hn
    simp only [sortWorldK, grow, putRowK, putRow, mapBlock]
    rw [Array.getElem?_append_left (by simpa using hk), Array.getElem?_modify, if_neg hn']
    rfl

theorem cmpLaysA (blk off size : Nat) (w : World) : CmpLays Tryd.prog 17 #[] encA 2 cmpA blk off size w := fun _ _ _ _ x y => compare_any x y _

theorem sortFunc_any (g cap : Nat) (l : List Ad) (w : World) (hH : HoldsK encA 2 w g 0 l.toArray) (hg : g < w.heap.size) (hl : l.length ≤ 100000) :
    Calls Tryd.prog 42 #[.slice (some ⟨g, 0, none⟩) l.length cap, .func (.func 17) #[] #[]] w fun e w' => e = .returned (.tuple #[]) ∧ HoldsK encA 2 w' g 0 (sortA l).toArray ∧ Fr [g] w w' := by
  have eg : ∀ args w, (callFunc 17 args).run Tryd.prog w = .ok (.enter 17 args) w := enters_of Tryd.func17 (by kernel_rfl) rfl
  have hcon := AnyQ.slices_SortFunc_total Tryd.sortA 2 Tryd.isAgg23 Tryd.sizeOf23 encA (fun _ => rfl) (fun x v hv => by simp [encA] at hv; rcases hv with rfl | rfl <;> rfl) cmpA swoA 17 #[] g 0 cap l.toArray w eg (cmpLaysA g 0 l.toArray.size w) hH hg (by simp; omega) totA
  change Calls Tryd.prog 42 _ _ _ at hcon
  have e1 : l.toArray.size = l.length := by simp
  rw [e1] at hcon
  refine hcon.mono ?_
  rintro e w' ⟨he, n, os, rfl⟩
  refine ⟨he, ?_, fr_sorted w g n _ os⟩
  have e2 : (l.toArray.toList.mergeSort fun x y => !(ltOf cmpA) y x).toArray = (sortA l).toArray := rfl
  rw [e2]
  exact holdsK_grow encA 2 _ os g 0 _ (by simpa [putRowK] using hg) (holdsK_putRowK encA 2 _ g 0 l.toArray _ (holdsK_ahead encA 2 _ n g 0 _ hH) (by simp [sortA_length]))

theorem sortedFunc_any (Bs b off len cap : Nat) (f : Nat → Ad) (hlen : len ≤ 100000) (h0 : 0 < len) (w : World) (hBs : Bs < w.heap.size) (hb : b < w.heap.size)
    (hc : w.cell? ⟨Bs, 0, none⟩ = some (.slice (some ⟨b, off, none⟩) len cap))
    (hI : ∀ j, j < len → w.cell? ⟨b, off + j * 2, none⟩ = some (.string (f j).1) ∧ w.cell? ⟨b, off + j * 2 + 1, none⟩ = some (.int .i64 (f j).2)) :
    Calls Tryd.prog 33 #[.func (.func 43) #[] #[.pointer (some ⟨Bs, 0, none⟩)], .func (.func 17) #[] #[]] w fun e w' =>
      ∃ g c, e = .returned (.slice (some ⟨g, 0, none⟩) len c) ∧ len ≤ c ∧ w.heap.size ≤ g ∧ HoldsK encA 2 w' g 0 (sortA (upto f len)).toArray ∧ Fr [] w w' := by
  have HA := Lib.hid (collect_any Bs b off len cap f hlen w hBs hb hc hI)
  clear hI hc
  go_enter Tryd.func33, Tryd.ntmps33
  go_wp2_with fail
  refine HA.out.mono ?_
  rintro e w1 ⟨v, rfl, ho, hB⟩
  have hul := upto_length f len
  have ho' : w1.ownsRow w.heap.size 23 2 v (upto f len).length ((upto f len).flatMap encA) := by
    rw [hul]
    exact ho
  obtain ⟨g, c, rfl, hcap, hg, hgl, hH⟩ := holds_owned ho' (by rw [hul]; exact h0)
  have HS := Lib.hid (sortFunc_any g c (upto f len) w1 hH hgl (by rw [hul]; exact hlen))
  rw [hul] at HS hcap ⊢
  clear ho ho' hH
  go_wp2_with (go_at_call 42; refine HS.out.mono ?_; rintro e w2 ⟨rfl, h2, f2⟩)
  go_ret
  exact ⟨g, c, rfl, hcap, hg, h2, (Fr.of_below hB).trans f2 (fun x hx hl => by simp at hx; omega)⟩
end Go.Proofs.YtbilaapikclhlaaDoor
