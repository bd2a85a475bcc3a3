/- Plain part of the document's wheel. Conditions: none. -/
import Derived.Test.YtblipnjjgbggiaaArr
namespace Go.Proofs.Ytblipnjjgbggiaa
open Go Go.RowKit
set_option linter.unusedVariables false
set_option linter.unusedSimpArgs false
def zR (X : List Thing) : List RThing := X.map (toR · 0)
theorem zR_len (X : List Thing) : (zR X).length = X.length := by simp [zR]
theorem zR_plain (X : List Thing) : (zR X).map plainR = X := by
  unfold zR; rw [List.map_map]; exact List.map_id'' (fun _ => rfl) X
theorem zR_gt {X : List Thing} {i : Int} (h0 : 0 ≤ i) (h1 : i < X.length) : gt (zR X) i = toR (gt X i) 0 := gt_map (toR · 0) h0 h1
theorem findR_z (id : Int) (X : List Thing) : findR id (zR X) = (findT id X).map (toR · 0) := by
  unfold findR findT zR; rw [List.find?_map]; rfl
theorem dropR_z (id : Int) (X : List Thing) : dropR id (zR X) = zR (dropT id X) := by
  unfold dropR dropT zR; rw [List.eraseP_map]; rfl
theorem sortR_z (X : List Thing) : sortR (zR X) = zR (sortT X) := (map_isort (lt := ltB) (lt' := ltRB) (toR · 0) (fun _ _ => rfl) X).symm
theorem zR_snoc (X : List Thing) (t : Thing) : zR X ++ [toR t 0] = zR (X ++ [t]) := by simp [zR]
theorem filter_z (p : RThing → Bool) (X : List Thing) : (zR X).filter p = zR (X.filter fun t => p (toR t 0)) := by
  unfold zR; rw [List.filter_map]; rfl
theorem upT_sub {X Y : List Thing} (h : UpT X) (p : Y.Sublist X) : UpT Y := List.Pairwise.sublist p h
def UpD (W : List RThing) : Prop := W.Pairwise fun a b => a.due ≤ b.due
theorem upD_z {X : List Thing} (h : UpT X) : UpD (zR X) := by
  unfold UpD zR
  rw [List.pairwise_map]
  exact h.imp fun {a b} q => by unfold ltT at q; show a.due ≤ b.due; omega
/-- Where the due times are in order, those up to one stand ahead. -/
theorem due_split {W : List RThing} {to_ n : Int} (h : UpD W) (h0 : 0 ≤ n) (h1 : n ≤ W.length) (hb : ∀ r, r ∈ W.take n.toNat → r.due ≤ to_) (ha : n < W.length → to_ < (gt W n).due) :
    W.take n.toNat = W.filter (fun r => decide (r.due ≤ to_)) ∧ W.drop n.toNat = W.filter (fun r => decide (to_ < r.due)) := by
  have hd : ∀ r, r ∈ W.drop n.toNat → to_ < r.due := by
    intro r hr
    by_cases q : n < W.length
    · have e := drop_gt h0 q
      have hp : UpD (W.drop n.toNat) := List.Pairwise.sublist (List.drop_sublist _ _) h
      rw [e] at hr hp
      have h2 := ha q
      rcases List.mem_cons.mp hr with z | z
      · rw [z]; exact h2
      · have := (List.pairwise_cons.mp hp).1 r z; omega
    · rw [List.drop_eq_nil_of_le (by omega)] at hr; cases hr
  constructor
  · have e : W.filter (fun r => decide (r.due ≤ to_)) = (W.take n.toNat ++ W.drop n.toNat).filter (fun r => decide (r.due ≤ to_)) := by rw [List.take_append_drop]
    rw [e, List.filter_append, List.filter_eq_self.mpr fun r hr => decide_eq_true (hb r hr), List.filter_eq_nil_iff.mpr fun r hr => by have := hd r hr; simp; omega, List.append_nil]
  · have e : W.filter (fun r => decide (to_ < r.due)) = (W.take n.toNat ++ W.drop n.toNat).filter (fun r => decide (to_ < r.due)) := by rw [List.take_append_drop]
    rw [e, List.filter_append, List.filter_eq_nil_iff.mpr fun r hr => by have := hb r hr; simp; omega, List.filter_eq_self.mpr fun r hr => decide_eq_true (hd r hr), List.nil_append]
theorem take_due {W : List RThing} {to_ n : Int} (h0 : 0 ≤ n) (h1 : n < W.length) (hb : ∀ r, r ∈ W.take n.toNat → r.due ≤ to_) (h : (gt W n).due ≤ to_) : ∀ r, r ∈ W.take (n + 1).toNat → r.due ≤ to_ := by
  rw [take_gt h0 h1]
  intro r hr
  rcases List.mem_append.mp hr with q | q
  · exact hb r q
  · rw [List.mem_singleton.mp q]; exact h
def plcR (now due : Int) : Int := (placeV now due).1
theorem spread_snoc {now : Int} {X : List Thing} {t : Thing} : ((spreadA now X).map fun n : Int => Value.int .i64 n).set (plcR now t.due).toNat (.int .i64 (gt (spreadA now X) (plcR now t.due) + 1)) = (spreadA now (X ++ [t])).map fun n : Int => Value.int .i64 n := by
  have hc : ∀ i, cntX now (X ++ [t]) i = cntX now X i + if plcR now t.due = i then 1 else 0 := fun i => by
    unfold cntX plcR
    rw [List.filter_append, List.length_append]
    congr 1
    by_cases q : (placeV now t.due).1 = i <;> simp [q]
  have hr := place_rng now t.due
  have hq : plcR now t.due = (placeV now t.due).1 := rfl
  rcases (show plcR now t.due = 0 ∨ plcR now t.due = 1 ∨ plcR now t.due = 2 ∨ plcR now t.due = 3 ∨ plcR now t.due = 4 by omega) with e | e | e | e | e <;> unfold spreadA <;> rw [hc, hc, hc, hc, hc, e] <;> simp [gt]
theorem spread_le {now : Int} {X : List Thing} {i : Int} (h0 : 0 ≤ i) (h1 : i < 5) : 0 ≤ gt (spreadA now X) i ∧ gt (spreadA now X) i ≤ X.length := spread_rng h0 h1
end Go.Proofs.Ytblipnjjgbggiaa
