/- Operations on slices and maps that are owned: append, copy, stores into maps; in regions whose order is open, too. Conditions: none. -/
import Derived.Test.YtblipnjjgbggiaaMaps
namespace Go.Proofs.Ytblipnjjgbggiaa
open Go Go.RowKit
set_option linter.unusedVariables false
set_option linter.unusedSectionVars false
set_option linter.unusedSimpArgs false
section
variable {P : Program} {n : Nat} {D : List Deferred} {Q : Exit → Act → World → Prop} {w w' w0 : World} {F : Nat → Prop} {rs : List Res} {l : List (Nat × Value)} {all : Array Oper} {o : Oper} {rest : List Oper} {d : Nat}
  {t e kt et : TypeId} {x y z : Operand} {a : Addr} {v : Value} {A : Option Addr} {c sz m : Nat} {S : World → Prop} {fuel i : Nat} {li : Array Bool}
theorem tw_opv0 (h : OpR P l w o (.value v) w') (hi : all[i]? = some o) (hS : S w') (hd : o.dst = none) (hg : wants all l o = some true) (k : TrH P n D S all fuel (li.setIfInBounds i true) l w' Q) : TrW P n D S all i fuel li l w Q :=
  tw_go hi hg h fun a ha => by rw [Oper.upon_value, hd]; exact ⟨hS, k _ ha⟩
/-! ### maps -/
section
variable {α : Type} {ik : IntKind} {encV : α → Value} {E : List (Int × α × Nat)} {b ck : Nat} {k : Int} {u : α}
theorem tr_mapNew (h : (mapR b ik encV E ck).holds w) (hf : mfind k E = none) (ho : o.op = .mapUpdate t x y z) (ht : P.underlying t = some (.map kt et)) (hk : P.underlying kt = some (.int ik)) (hx : ev l x = some (.map (some b))) (hy : ev l y = some (.int ik k)) (hz : ev l z = some (encV u)) (hd : o.dst = none) (hg : wants all l o = some true)
    (kk : ∀ w1, Upd w (mapR b ik encV E ck) (mapR b ik encV (E ++ [(k, u, ck)]) (ck + 1)) w1 → TrL P n D all rest l w1 Q) : TrL P n D all (o :: rest) l w Q :=
  tr_op0 (or_mapNew h hf ho ht hk hx hy hz) hd hg (kk _ (upd_map h))
theorem tw_mapNew (h : (mapR b ik encV E ck).holds w) (hi : all[i]? = some o) (hf : mfind k E = none) (ho : o.op = .mapUpdate t x y z) (ht : P.underlying t = some (.map kt et)) (hk : P.underlying kt = some (.int ik)) (hx : ev l x = some (.map (some b))) (hy : ev l y = some (.int ik k)) (hz : ev l z = some (encV u)) (hd : o.dst = none) (hg : wants all l o = some true)
    (kk : ∀ w1, Upd w (mapR b ik encV E ck) (mapR b ik encV (E ++ [(k, u, ck)]) (ck + 1)) w1 → S w1 ∧ TrH P n D S all fuel (li.setIfInBounds i true) l w1 Q) : TrW P n D S all i fuel li l w Q :=
  have q := kk _ (upd_map h)
  tw_op0 (or_mapNew h hf ho ht hk hx hy hz) hi q.1 hd hg q.2
theorem tr_mapDel {ats : Array TypeId} (h : (mapR b ik encV E ck).holds w) (ho : o.op = .call { callee := .builtin .delete, args := #[x, y], argTypes := ats }) (hat : ats[0]? = some t) (ht : P.underlying t = some (.map kt et)) (hk : P.underlying kt = some (.int ik)) (hx : ev l x = some (.map (some b))) (hy : ev l y = some (.int ik k)) (hd : o.dst = none) (hg : wants all l o = some true)
    (kk : ∀ w1, Upd w (mapR b ik encV E ck) (mapR b ik encV (mdel k E) ck) w1 → TrL P n D all rest l w1 Q) : TrL P n D all (o :: rest) l w Q :=
  tr_opv0 (or_mapDel h ho hat ht hk hx hy) hd hg (kk _ (upd_map h))
theorem tw_mapDel {ats : Array TypeId} (h : (mapR b ik encV E ck).holds w) (hi : all[i]? = some o) (ho : o.op = .call { callee := .builtin .delete, args := #[x, y], argTypes := ats }) (hat : ats[0]? = some t) (ht : P.underlying t = some (.map kt et)) (hk : P.underlying kt = some (.int ik)) (hx : ev l x = some (.map (some b))) (hy : ev l y = some (.int ik k)) (hd : o.dst = none) (hg : wants all l o = some true)
    (kk : ∀ w1, Upd w (mapR b ik encV E ck) (mapR b ik encV (mdel k E) ck) w1 → S w1 ∧ TrH P n D S all fuel (li.setIfInBounds i true) l w1 Q) : TrW P n D S all i fuel li l w Q :=
  have q := kk _ (upd_map h)
  tw_opv0 (or_mapDel h ho hat ht hk hx hy) hi q.1 hd hg q.2
end
/-! ### slices -/
section
variable {α : Type} {enc : α → List Value} {L : List α}
theorem flatMap_take (hx : ∀ x, (enc x).length = sz) : ∀ (L : List α) (k : Nat), (L.flatMap enc).take (k * sz) = (L.take k).flatMap enc
  | [], k => by simp
  | x :: L, 0 => by simp
  | x :: L, k + 1 => by
    simp only [List.flatMap_cons, List.take_succ_cons]
    rw [show (k + 1) * sz = (enc x).length + k * sz by rw [hx, Nat.add_mul]; omega, List.take_length_add_append, flatMap_take hx L k]
theorem flatMap_drop (hx : ∀ x, (enc x).length = sz) : ∀ (L : List α) (k : Nat), (L.flatMap enc).drop (k * sz) = (L.drop k).flatMap enc
  | [], k => by simp
  | x :: L, 0 => by simp
  | x :: L, k + 1 => by
    simp only [List.flatMap_cons, List.drop_succ_cons]
    rw [show (k + 1) * sz = (enc x).length + k * sz by rw [hx, Nat.add_mul]; omega, List.drop_length_add_append, flatMap_drop hx L k]
theorem rd_cells {a2 : Addr} {M : List α} (hR : Rd w (some a2) sz (M.map enc)) (hx : ∀ x, (enc x).length = sz) (hsz : 0 < sz) : ∀ j u, (M.flatMap enc)[j]? = some u → w.cell? (a2.add j) = some u := by
  intro j u hj
  have hlM := flatMap_len hx M
  have hlt : j < M.length * sz := by
    rw [← hlM]
    rcases Nat.lt_or_ge j (M.flatMap enc).length with h' | h'
    · exact h'
    · rw [List.getElem?_eq_none h'] at hj; cases hj
  have hq : j / sz < M.length := Nat.div_lt_of_lt_mul (by rw [Nat.mul_comm]; exact hlt)
  have hmod : j % sz < sz := Nat.mod_lt _ hsz
  have hc : (M.map enc)[j / sz]? = some (enc M[j / sz]) := by simp [hq]
  have hl : j % sz < (enc M[j / sz]).length := by rw [hx]; exact hmod
  have hu := List.getElem?_eq_getElem hl
  have hf := flatten_get (M.map enc) (j / sz) (j % sz) _ _ (by simp; intro a _; exact hx a) hc hu
  rw [← List.flatMap_def, Nat.div_add_mod'] at hf
  rw [hj] at hf
  injection hf with hf
  have := hR.2 (j / sz) (j % sz) _ _ hc hu
  rw [Nat.div_add_mod'] at this
  rw [hf]; exact this
/-- copy(s[k:], m): part of a slice of the call's own is laid over. -/
theorem run_copy_vec {ty : TypeId} {inf : TypeInfo} {A2 : Option Addr} {n2 c2 k cd : Nat} {M : List α} (H : (vec A c e sz enc L).holds w) (hR : Rd w A2 sz (M.map enc)) (ht : P.underlying t = some (.slice e)) (hi : P.info? e = some inf) (hsize : inf.size = sz) (hsz : 0 < sz) (hx : ∀ x, (enc x).length = sz)
    (h1 : ∀ x u, u ∈ enc x → u.oneCell' = true) (hk : k + M.length ≤ L.length) (hn : M.length = Nat.min n2 (L.length - k)) :
    ∃ w1, (Builtin.copy_ #[t, t] ty #[.slice (if c = k then A else A.map (·.add (k * sz))) (L.length - k) cd, .slice A2 n2 c2]).run P w = .ok (goInt M.length) w1 ∧ Upd w (vec A c e sz enc L) (vec A c e sz enc (L.take k ++ M ++ L.drop (k + M.length))) w1 := by
  have hle := vec_len H
  cases hM : M with
  | nil =>
    subst hM
    simp only [List.length_nil] at hn
    refine ⟨w, ?_, ?_⟩
    · generalize (if c = k then A else A.map (·.add (k * sz))) = B
      have hmin : Nat.min n2 (L.length - k) = 0 := hn.symm
      have hl0 : ∀ a : Addr, (loadCells a 0).run P w = .ok #[] w := fun a => run_loadCells_list (P := P) (w := w) a [] (by simp)
      cases A2 <;> cases B <;> simp [Builtin.copy_, run_underlying ht, sizeOf, typeInfo, hi, Builtin.lenOf, Builtin.firstCells, hmin, storeCells, hl0]
    · rw [show L.take k ++ [] ++ L.drop (k + ([] : List α).length) = L by simp]
      exact upd_conv w H id fun b hb => hb
  | cons m0 M0 =>
    rw [← hM]
    have hne : M ≠ [] := by rw [hM]; simp
    have hpos : 0 < M.length := List.length_pos_iff.mpr hne
    obtain ⟨a2, rfl⟩ := Option.isSome_iff_exists.mp (hR.1 (by simpa using hne))
    have hlL := flatMap_len hx L
    have hlM := flatMap_len hx M
    have H' : (row A L.length c e sz (L.flatMap enc)).holds w := H
    obtain ⟨g, rfl⟩ := row_some H' (by intro h0; rw [h0] at hlL; simp only [List.length_nil] at hlL; have : 0 < L.length * sz := Nat.mul_pos (by omega) hsz; omega)
    have hadd : k * sz + (M.flatMap enc).length ≤ (L.flatMap enc).length := by
      rw [hlL, hlM, ← Nat.add_mul]; exact Nat.mul_le_mul_right _ hk
    obtain ⟨w1, hr, U⟩ := row_over (P := P) (M.flatMap enc) (L.flatMap enc) (k * sz) w g H' hadd (fun u hu => by obtain ⟨x, _, hxu⟩ := List.mem_flatMap.mp hu; exact h1 x u hxu)
    have hr0 := (hr 0).resolve_right (by omega)
    simp only [Nat.sub_zero] at hr0
    refine ⟨w1, ?_, ?_⟩
    · have hck : ¬ c = k := by omega
      rw [if_neg hck]
      have hmin : Nat.min n2 (L.length - k) = M.length := hn.symm
      have hld : (loadCells a2 (M.length * sz)).run P w = .ok (M.flatMap enc).toArray w := by
        have := run_loadCells_list (P := P) (w := w) a2 (M.flatMap enc) (rd_cells hR hx hsz)
        rwa [hlM] at this
      have ha : (⟨g, 0, none⟩ : Addr).add (k * sz) = ⟨g, k * sz, none⟩ := by rw [add_lit, Nat.zero_add]
      simp [Builtin.copy_, run_underlying ht, sizeOf, typeInfo, hi, Builtin.lenOf, Builtin.firstCells, hmin, hsize, hld, ha, hr0]
    · rw [over_eq _ _ _ hadd] at U
      rw [flatMap_take hx, hlM, ← Nat.add_mul, flatMap_drop hx] at U
      have hl2 : (L.take k ++ M ++ L.drop (k + M.length)).length = L.length := by simp; omega
      unfold vec
      rw [hl2, List.flatMap_append, List.flatMap_append]
      exact U
theorem sub_zero_ {A : Option Addr} {c sz : Nat} : (if c = 0 then A else A.map (·.add (0 * sz))) = A := by
  split
  · rfl
  · cases A <;> simp [add_zero_]
theorem or_copy {inf : TypeInfo} {A2 : Option Addr} {n2 c2 k cd : Nat} {M : List α} (H : (vec A c e sz enc L).holds w) (hR : Rd w A2 sz (M.map enc)) (ho : o.op = .call { callee := .builtin .copy, args := #[x, y], argTypes := #[t, t] }) (ht : P.underlying t = some (.slice e)) (hi : P.info? e = some inf) (hsize : inf.size = sz) (hsz : 0 < sz) (hx : ∀ x, (enc x).length = sz)
    (h1 : ∀ x u, u ∈ enc x → u.oneCell' = true) (hxv : ev l x = some (.slice (if c = k then A else A.map (·.add (k * sz))) (L.length - k) cd)) (hyv : ev l y = some (.slice A2 n2 c2)) (hk : k + M.length ≤ L.length) (hn : M.length = Nat.min n2 (L.length - k)) :
    ∃ w1, OpR P l w o (.value (goInt M.length)) w1 ∧ Upd w (vec A c e sz enc L) (vec A c e sz enc (L.take k ++ M ++ L.drop (k + M.length))) w1 := by
  obtain ⟨w1, hr, U⟩ := run_copy_vec (P := P) (ty := o.type) (cd := cd) (n2 := n2) (c2 := c2) H hR ht hi hsize hsz hx h1 hk hn
  refine ⟨w1, ?_, U⟩
  intro ρ kq
  simp only [execOp, ho, resolve, invoke, builtin, Sem.run_bind, Sem.run_pure, Result.andThen_ok, List.map_toArray, List.map_cons, List.map_nil, kq _ _ hxv, kq _ _ hyv, hr]
theorem tr_copy {inf : TypeInfo} {A2 : Option Addr} {n2 c2 k cd : Nat} (M : List α) (H : (vec A c e sz enc L).holds w) (hR : Rd w A2 sz (M.map enc)) (ho : o.op = .call { callee := .builtin .copy, args := #[x, y], argTypes := #[t, t] }) (ht : P.underlying t = some (.slice e)) (hi : P.info? e = some inf) (hsize : inf.size = sz) (hsz : 0 < sz) (hx : ∀ x, (enc x).length = sz)
    (h1 : ∀ x u, u ∈ enc x → u.oneCell' = true) (hxv : ev l x = some (.slice (if c = k then A else A.map (·.add (k * sz))) (L.length - k) cd)) (hyv : ev l y = some (.slice A2 n2 c2)) (hk : k + M.length ≤ L.length) (hn : M.length = Nat.min n2 (L.length - k)) (hd : o.dst = some d) (hnn : Nat.blt d n = true) (hg : wants all l o = some true)
    (kk : ∀ w1, Upd w (vec A c e sz enc L) (vec A c e sz enc (L.take k ++ M ++ L.drop (k + M.length))) w1 → TrL P n D all rest ((d, goInt M.length) :: l) w1 Q) : TrL P n D all (o :: rest) l w Q := by
  obtain ⟨w1, hr, U⟩ := or_copy (P := P) H hR ho ht hi hsize hsz hx h1 hxv hyv hk hn
  exact tr_op hr hd hnn hg (kk w1 U)
theorem tw_copy {inf : TypeInfo} {A2 : Option Addr} {n2 c2 k cd : Nat} (M : List α) (H : (vec A c e sz enc L).holds w) (hR : Rd w A2 sz (M.map enc)) (hj : all[i]? = some o) (ho : o.op = .call { callee := .builtin .copy, args := #[x, y], argTypes := #[t, t] }) (ht : P.underlying t = some (.slice e)) (hi : P.info? e = some inf) (hsize : inf.size = sz) (hsz : 0 < sz) (hx : ∀ x, (enc x).length = sz)
    (h1 : ∀ x u, u ∈ enc x → u.oneCell' = true) (hxv : ev l x = some (.slice (if c = k then A else A.map (·.add (k * sz))) (L.length - k) cd)) (hyv : ev l y = some (.slice A2 n2 c2)) (hk : k + M.length ≤ L.length) (hn : M.length = Nat.min n2 (L.length - k)) (hd : o.dst = some d) (hnn : Nat.blt d n = true) (hg : wants all l o = some true)
    (kk : ∀ w1, Upd w (vec A c e sz enc L) (vec A c e sz enc (L.take k ++ M ++ L.drop (k + M.length))) w1 → S w1 ∧ TrH P n D S all fuel (li.setIfInBounds i true) ((d, goInt M.length) :: l) w1 Q) : TrW P n D S all i fuel li l w Q := by
  obtain ⟨w1, hr, U⟩ := or_copy (P := P) H hR ho ht hi hsize hsz hx h1 hxv hyv hk hn
  have q := kk w1 U
  exact tw_op hr hj q.1 hd hnn hg q.2
theorem tw_append {inf : TypeInfo} {zv : Value} {bytes : Nat} {A2 : Option Addr} {c2 : Nat} {M : List α} (H : (vec A c e sz enc L).holds w) (hR : Rd w A2 sz (M.map enc)) (hj : all[i]? = some o) (ho : o.op = .call { callee := .builtin .append, args := #[x, y], argTypes := #[t, t] })
    (hxv : ev l x = some (.slice A L.length c)) (hyv : ev l y = some (.slice A2 M.length c2)) (ht : P.underlying t = some (.slice e)) (hi : P.info? e = some inf) (hz : inf.zero = some zv)
    (hsize : inf.size = sz) (hby : inf.bytes = bytes) (hzs : zv.cells.size = sz) (hsz : 0 < sz) (hx : ∀ x, (enc x).length = sz) (h1 : ∀ x u, u ∈ enc x → u.oneCell' = true) (hb : (L.length + M.length) * bytes ≤ 140737488355328) (hml : L.length + M.length ≤ maxLen)
    (hd : o.dst = some d) (hn : Nat.blt d n = true) (hg : wants all l o = some true)
    (k : ∀ A' c' w1, Upd w (vec A c e sz enc L) (vec A' c' e sz enc (L ++ M)) w1 → S w1 ∧ TrH P n D S all fuel (li.setIfInBounds i true) ((d, .slice A' (L ++ M).length c') :: l) w1 Q) : TrW P n D S all i fuel li l w Q := by
  obtain ⟨A', c', w', hr, U⟩ := run_append_vec (P := P) (ty := o.type) (c2 := c2) H hR ht hi hz hsize hby hzs hsz hx h1 hb hml
  have q := k A' c' w' U
  refine tw_op (w' := w') ?_ hj q.1 hd hn hg q.2
  intro ρ k
  simp only [execOp, ho, resolve, invoke, builtin, Sem.run_bind, Sem.run_pure, Result.andThen_ok, List.map_toArray, List.map_cons, List.map_nil, k _ _ hxv, k _ _ hyv, hr]
end
theorem tw_buildSlice0 {inf : TypeInfo} (H : SH w0 F rs w) (hj : all[i]? = some o) (ho : o.op = .buildSlice t 0 #[]) (ht : P.underlying t = some (.slice e)) (hi : P.info? e = some inf) (hd : o.dst = some d) (hn : Nat.blt d n = true) (hg : wants all l o = some true)
    (k : ∀ b w1, w0.heap.size ≤ b → SH w0 F (blk b e [] :: rs) w1 → S w1 ∧ TrH P n D S all fuel (li.setIfInBounds i true) ((d, .slice (some ⟨b, 0, none⟩) 0 0) :: l) w1 Q) : TrW P n D S all i fuel li l w Q :=
  have q := k _ _ H.size (H.add (upd_alloc w e []))
  tw_op (or_buildSlice0 ho ht hi) hj q.1 hd hn hg q.2
theorem tw_buildSlice {inf : TypeInfo} {zv : Value} {cs : List Value} {len : Nat} {parts : Array (Nat × Operand)} {vals : Array (Nat × Value)} (H : SH w0 F rs w) (hj : all[i]? = some o) (ho : o.op = .buildSlice t len parts) (ht : P.underlying t = some (.slice e)) (hi : P.info? e = some inf) (hz : inf.zero = some zv)
    (hv : ∀ ρ, Knows l ρ → parts.map (fun p => (p.1, ρ p.2)) = vals) (hl : len * inf.size ≤ 16777216) (hl0 : ¬ len * inf.size = 0)
    (hf : Instr.fill (fun k => some (k * inf.size, inf.size)) ((Array.range (len * inf.size)).map (zv.cells[· % zv.cells.size]!)) vals.toList = some cs.toArray) (hd : o.dst = some d) (hn : Nat.blt d n = true) (hg : wants all l o = some true)
    (k : ∀ b w1, w0.heap.size ≤ b → SH w0 F (blk b e cs :: rs) w1 → S w1 ∧ TrH P n D S all fuel (li.setIfInBounds i true) ((d, .slice (some ⟨b, 0, none⟩) len len) :: l) w1 Q) : TrW P n D S all i fuel li l w Q :=
  have q := k _ _ H.size (H.add (upd_alloc w e cs))
  tw_op (or_buildSlice (zc := #[]) ho ht hi hz hv hl hl0 hf) hj q.1 hd hn hg q.2
end
end Go.Proofs.Ytblipnjjgbggiaa
