/- A growing slice meets the words of the library's sort. Conditions: none. -/
import Derived.Shelf.SlSortCmp.WholeK
import Derived.Test.YtnmglobfdlnenaaLst
namespace Go.Proofs.Ytnmglobfdlnenaa
open Go Go.RowKit Go.Shelf Go.Lib Go.Sort
set_option linter.unusedVariables false
set_option linter.unusedSimpArgs false
section
variable {α : Type} [Inhabited α] {enc : α → List Value} {sz : Nat} {L M : List α} {g c : Nat} {e : TypeId} {w : World}
theorem flatK_list (hk : ∀ x, (enc x).length = sz) (h0 : 0 < sz) (L : List α) : (flatK enc sz L.toArray).toList = L.flatMap enc := by
  have hl := flatMap_len hk L
  apply List.ext_getElem?
  intro t
  by_cases ht : t < L.length * sz
  · have hq : t / sz < L.length := Nat.div_lt_of_lt_mul (by rw [Nat.mul_comm]; exact ht)
    have hm : t % sz < (enc L[t / sz]).length := by rw [hk]; exact Nat.mod_lt _ h0
    have h1 := flatten_get (sz := sz) (L.map enc) (t / sz) (t % sz) (enc L[t / sz]) (enc L[t / sz])[t % sz] (by intro c hc; simp at hc; obtain ⟨a, _, rfl⟩ := hc; exact hk a) (by simp [hq]) (List.getElem?_eq_getElem hm)
    rw [Nat.div_add_mod', ← List.flatMap_def] at h1
    rw [h1, Array.getElem?_toList, Array.getElem?_eq_getElem (by simpa using ht)]
    congr 1
    have h2 := get_flatK enc sz L.toArray t (by simpa using ht)
    rw [getElem!_pos (flatK enc sz L.toArray) t (by simpa using ht)] at h2
    rw [h2]
    have h3 : L.toArray[t / sz]! = L[t / sz] := by rw [getElem!_pos L.toArray (t / sz) (by simpa using hq)]; simp
    rw [h3, getElem!_pos (enc L[t / sz]) (t % sz) hm]
  · rw [List.getElem?_eq_none (by simp; omega), List.getElem?_eq_none (by rw [hl]; omega)]
theorem holdsK_vec (h : (vec (some ⟨g, 0, none⟩) c e sz enc L).holds w) (hk : ∀ x, (enc x).length = sz) (h0 : 0 < sz) : HoldsK enc sz w g 0 L.toArray := by
  have h' : w.ownsRow 0 e sz (.slice (some ⟨g, 0, none⟩) L.length c) L.length (L.flatMap enc) := h
  intro j hj
  have hj' : j < L.length * sz := by simpa using hj
  rw [Nat.zero_add]
  refine ⟨?_, h'.frozenAt j⟩
  rw [h'.cellAt j hj', ← flatK_list hk h0, Array.getElem?_toList, getElem!_pos (flatK enc sz L.toArray) j hj, Array.getElem?_eq_getElem hj]
  rfl
theorem heap_sortedK {n : Nat} {os : Array Obj} {cur : Array Value} {fr : Nat × Nat} (d : Array α) (hb : w.heap[g]? = some (.cells cur e fr)) : (sortWorldK enc sz w g 0 n d os).heap[g]? = some (.cells (putCells id 0 (flatK enc sz d) cur) e fr) := by
  have hg : g < w.heap.size := (Array.getElem?_eq_some_iff.1 hb).1
  unfold sortWorldK putRowK
  rw [heap_grow_old _ _ (by simpa using hg)]
  simp [putRow, mapBlock, Sort.ahead, Array.getElem?_modify, hb, onCells]
theorem grownBy_sortedK {n : Nat} {os : Array Obj} (d : Array α) : w.grownBy (sortWorldK enc sz w g 0 n d os) (some g) := by
  unfold sortWorldK putRowK
  refine ⟨rfl, rfl, rfl, by simp, fun k hk hne => ?_⟩
  rw [heap_grow_old _ _ (by simpa using hk)]
  have : g ≠ k := fun e => hne (by rw [e])
  simp [putRow, mapBlock, Sort.ahead, Array.getElem?_modify, this]
theorem upd_sortedK {n : Nat} {os : Array Obj} (h : (vec (some ⟨g, 0, none⟩) c e sz enc L).holds w) (hk : ∀ x, (enc x).length = sz) (h0 : 0 < sz) (hl : M.length = L.length) :
    Upd w (vec (some ⟨g, 0, none⟩) c e sz enc L) (vec (some ⟨g, 0, none⟩) c e sz enc M) (sortWorldK enc sz w g 0 n M.toArray os) := by
  have h' : w.ownsRow 0 e sz (.slice (some ⟨g, 0, none⟩) L.length c) L.length (L.flatMap enc) := h
  have hfl := flatMap_len hk M
  unfold vec
  refine upd_row ?_ (grownBy_sortedK _) (fun b hb => .inl hb)
  rcases h'.2 with ⟨e1, _⟩ | ⟨g', cap, cur, hv, hb0, hb, h1, h2, h3, h4⟩
  · cases e1
  cases hv
  refine ⟨hfl, .inr ⟨g, c, _, rfl, Nat.zero_le _, heap_sortedK _ hb, by omega, h2, by simp [putCells, h3], ?_⟩⟩
  have hle : M.length * sz ≤ cur.size := by rw [h3]; exact Nat.mul_le_mul_right _ (by omega)
  rw [← flatK_list hk h0]
  apply List.ext_getElem?
  intro j
  by_cases hj : j < M.length * sz
  · have hj2 : j < (flatK enc sz M.toArray).size := by simpa using hj
    rw [List.getElem?_take_of_lt hj, Array.getElem?_toList, Array.getElem?_toList, Array.getElem?_eq_getElem hj2]
    simp [putCells, show j < cur.size by omega, hj]
    try rw [getElem!_pos (flatK enc sz M.toArray) j hj2]
  · rw [List.getElem?_take_eq_none (by omega), List.getElem?_eq_none (by simp; omega)]
theorem permIn_perm {d d' : Array α} (h : PermIn 0 d.size d d') : d'.toList.Perm d.toList := by
  have h3 := h.2.2
  have e1 : d'.extract 0 d.size = d' := by rw [← h.1]; simp
  have e2 : d.extract 0 d.size = d := by simp
  rwa [e1, e2] at h3
theorem sortedIn_pairwise {lt : α → α → Bool} {d : Array α} (h : SortedIn lt 0 d.size d) : d.toList.Pairwise fun x y => lt y x = false := by
  rw [List.pairwise_iff_getElem]
  intro i j hi hj hij
  have := h i j (Nat.zero_le _) hij (by simpa using hj)
  rw [getElem!_pos _ _ (by simpa using hj), getElem!_pos _ _ (by simpa using hi)] at this
  simpa using this
end
end Go.Proofs.Ytnmglobfdlnenaa
