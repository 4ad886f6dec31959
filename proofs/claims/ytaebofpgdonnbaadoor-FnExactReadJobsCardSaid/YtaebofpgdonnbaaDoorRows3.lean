/- Rows of the call's own: many elements appended; what a list's cells are, one behind the other. -/
import Derived.Test.YtaebofpgdonnbaaDoorRows2
set_option linter.unusedVariables false
set_option linter.unusedSimpArgs false
namespace Go.Proofs.YtaebofpgdonnbaaDoor
open Go.RowKit

theorem flat_at {D : Type} (cells : D → List Value) (sz : Nat) (hsz : ∀ d, (cells d).length = sz) (l : List D) :
    ∀ (j : Nat) (u : Value), (l.flatMap cells)[j]? = some u → ∃ i q d, j = i * sz + q ∧ l[i]? = some d ∧ (cells d)[q]? = some u := by
  induction l with
  | nil => intro j u h; simp at h
  | cons x l ih =>
    intro j u h
    rw [List.flatMap_cons] at h
    by_cases hj : j < sz
    · rw [List.getElem?_append_left (by rw [hsz]; exact hj)] at h
      exact ⟨0, j, x, by omega, rfl, h⟩
    · rw [List.getElem?_append_right (by rw [hsz]; omega), hsz] at h
      obtain ⟨i, q, d, h1, h2, h3⟩ := ih _ _ h
      exact ⟨i + 1, q, d, by rw [Nat.succ_mul]; omega, h2, h3⟩

theorem Rd.flat {D : Type} {w : World} {B sz : Nat} {cells : D → List Value} {A : Option Addr} {l : List D} (hsz : ∀ d, (cells d).length = sz) (h : Rd w B sz cells A l) (hl : 0 < l.length) :
    ∃ b off, A = some ⟨b, off, none⟩ ∧ b < B ∧ ∀ j u, (l.flatMap cells)[j]? = some u → w.cell? ⟨b, off + j, none⟩ = some u := by
  obtain ⟨b, off, e, hb, hc⟩ := h hl
  refine ⟨b, off, e, hb, fun j u hj => ?_⟩
  obtain ⟨i, q, d, h1, h2, h3⟩ := flat_at cells sz hsz l j u hj
  have := hc i d h2 q u h3
  rwa [h1, ← Nat.add_assoc]

theorem flat_take_at {D : Type} {cells : D → List Value} {l : List D} {k j : Nat} {u : Value} (h : ((l.take k).flatMap cells)[j]? = some u) : (l.flatMap cells)[j]? = some u := by
  conv => lhs; rw [← List.take_append_drop k l]
  rw [List.flatMap_append, List.getElem?_append_left (List.getElem?_eq_some_iff.1 h).1]
  exact h
theorem flat_drop_at {D : Type} {cells : D → List Value} {sz : Nat} (hsz : ∀ d, (cells d).length = sz) {l : List D} {k j : Nat} {u : Value} (hk : k ≤ l.length) (h : ((l.drop k).flatMap cells)[j]? = some u) : (l.flatMap cells)[k * sz + j]? = some u := by
  conv => lhs; rw [← List.take_append_drop k l]
  have hl : ((l.take k).flatMap cells).length = k * sz := by rw [flat_len cells sz hsz, List.length_take, Nat.min_eq_left hk]
  rw [List.flatMap_append, List.getElem?_append_right (by rw [hl]; omega), hl, Nat.add_sub_cancel_left]
  exact h

/-- m elements appended to a row of the call's own: as an operation, as a step of a region that draws, of a list -/
theorem appm_wp {P : Program} {o : Oper} {a : Act} {K : Act → World → Prop} {Q : Exit → Act → World → Prop} {W w : World} {t e : TypeId} {i0 : TypeInfo} {z : Value} {size bytes B n m c g off : Nat} {v : Value} {xs news : List Value} (s x : Operand)
    (ho : o.op = .call { callee := .builtin .append, args := #[s, x], argTypes := #[t, t] })
    (ht : P.underlying t = some (.slice e)) (hi : P.info? e = some i0) (hz : i0.zero = some z) (hsize : i0.size = size) (hby : i0.bytes = bytes) (hzs : z.cells.size = size) (hsz : 0 < size) (hbytes : bytes ≤ 4096)
    (hs : a.eval s = v) (hown : w.ownsRow B e size v n xs) (hx : a.eval x = .slice (some ⟨g, off, none⟩) m c) (hl : news.length = m * size) (hc : ∀ j u, news[j]? = some u → w.cell? ⟨g, off + j, none⟩ = some u) (h1 : ∀ u ∈ news, u.oneCell' = true) (hn : n + m ≤ 4194304) (hb : Below B W w) (hB : B ≤ W.heap.size)
    (h : ∀ v' w', w'.ownsRow B e size v' (n + m) (xs ++ news) → w.grownBy w' v.ownBlock → (v'.ownBlock = v.ownBlock ∨ v'.ownBlock = some w.heap.size) → Below B W w' → K (a.put o.dst v') w') : o.wp P a w K Q := by
  have hsz' := hb.size
  have hbn : (n + m) * bytes ≤ 140737488355328 := by
    have := Nat.mul_le_mul hn hbytes
    omega
  have hnews : ∀ j u, news[j]? = some u → w.cell? ((⟨g, off, none⟩ : Addr).add j) = some u := fun j u hu => by
    have hadd : (⟨g, off, none⟩ : Addr).add j = ⟨g, off + j, none⟩ := by unfold Addr.add; split <;> simp_all
    rw [hadd]; exact hc j u hu
  obtain ⟨v', w', hr, h2, h3, _, h5⟩ := run_append_own_at (P := P) w B t o.type e i0 z size bytes ht hi hz hsize hby hzs hsz v n xs hown ⟨g, off, none⟩ m c news hl hnews h1 (by unfold maxLen; omega) hbn (by omega)
  unfold Oper.wp execOp
  simp only [ho, resolve, invoke, builtin, Sem.run_bind, Sem.run_pure, Result.andThen_ok, List.map_toArray, List.map_cons, List.map_nil, hs, hx, hr]
  exact h v' w' h2 h3 h5 (hb.grown h3 (by omega) (fun k hk => (hown.lt k hk).1))

theorem appm_step {P : Program} {ops : Array Oper} {o : Oper} {a : Act} {K : Act → World → Prop} {Q : Exit → Act → World → Prop} {E : Prop} {W w : World} {t e : TypeId} {i0 : TypeInfo} {z : Value} {size bytes B n m c g off : Nat} {v : Value} {xs news : List Value} (s x : Operand) (hgd : o.guard = none)
    (ho : o.op = .call { callee := .builtin .append, args := #[s, x], argTypes := #[t, t] })
    (ht : P.underlying t = some (.slice e)) (hi : P.info? e = some i0) (hz : i0.zero = some z) (hsize : i0.size = size) (hby : i0.bytes = bytes) (hzs : z.cells.size = size) (hsz : 0 < size) (hbytes : bytes ≤ 4096)
    (hs : a.eval s = v) (hown : w.ownsRow B e size v n xs) (hx : a.eval x = .slice (some ⟨g, off, none⟩) m c) (hl : news.length = m * size) (hc : ∀ j u, news[j]? = some u → w.cell? ⟨g, off + j, none⟩ = some u) (h1 : ∀ u ∈ news, u.oneCell' = true) (hn : n + m ≤ 4194304) (hb : Below B W w) (hB : B ≤ W.heap.size)
    (h : ∀ v' w', w'.ownsRow B e size v' (n + m) (xs ++ news) → w.grownBy w' v.ownBlock → (v'.ownBlock = v.ownBlock ∨ v'.ownBlock = some w.heap.size) → Below B W w' → K (a.put o.dst v') w') :
    if Region.wanted o (yielded ops a.tmps) = true then Oper.wp P o a w K Q else E := by
  have hw : Region.wanted o (yielded ops a.tmps) = true := by simp [Region.wanted, hgd]
  rw [if_pos hw]
  exact appm_wp s x ho ht hi hz hsize hby hzs hsz hbytes hs hown hx hl hc h1 hn hb hB h

theorem appm_list {P : Program} {ops : Array Oper} {rest : List Oper} {o : Oper} {a : Act} {Q : Exit → Act → World → Prop} {W w : World} {t e : TypeId} {i0 : TypeInfo} {z : Value} {size bytes B n m c g off : Nat} {v : Value} {xs news : List Value} (s x : Operand) (hgd : o.guard = none)
    (ho : o.op = .call { callee := .builtin .append, args := #[s, x], argTypes := #[t, t] })
    (ht : P.underlying t = some (.slice e)) (hi : P.info? e = some i0) (hz : i0.zero = some z) (hsize : i0.size = size) (hby : i0.bytes = bytes) (hzs : z.cells.size = size) (hsz : 0 < size) (hbytes : bytes ≤ 4096)
    (hs : a.eval s = v) (hown : w.ownsRow B e size v n xs) (hx : a.eval x = .slice (some ⟨g, off, none⟩) m c) (hl : news.length = m * size) (hc : ∀ j u, news[j]? = some u → w.cell? ⟨g, off + j, none⟩ = some u) (h1 : ∀ u ∈ news, u.oneCell' = true) (hn : n + m ≤ 4194304) (hb : Below B W w) (hB : B ≤ W.heap.size)
    (h : ∀ v' w', w'.ownsRow B e size v' (n + m) (xs ++ news) → w.grownBy w' v.ownBlock → (v'.ownBlock = v.ownBlock ∨ v'.ownBlock = some w.heap.size) → Below B W w' → wpList P ops Q rest (a.put o.dst v') w') : wpList P ops Q (o :: rest) a w :=
  wpList_plain hgd fun _ hK => appm_wp s x ho ht hi hz hsize hby hzs hsz hbytes hs hown hx hl hc h1 hn hb hB fun v' w' a b c d => hK _ _ (h v' w' a b c d)

theorem news4 {w : World} {g : Nat} {z0 z1 z2 z3 : Value} (h0 : w.cell? ⟨g, 0, none⟩ = some z0) (h1 : w.cell? ⟨g, 1, none⟩ = some z1) (h2 : w.cell? ⟨g, 2, none⟩ = some z2) (h3 : w.cell? ⟨g, 3, none⟩ = some z3) : ∀ j u, [z0, z1, z2, z3][j]? = some u → w.cell? ⟨g, j, none⟩ = some u := fun j u hu => by
  match j, hu with
  | 0, hu => simp at hu; subst hu; exact h0
  | 1, hu => simp at hu; subst hu; exact h1
  | 2, hu => simp at hu; subst hu; exact h2
  | 3, hu => simp at hu; subst hu; exact h3
  | j + 4, hu => simp at hu
theorem flat_one {D : Type} {cells : D → List Value} (h : ∀ d, ∀ u ∈ cells d, u.oneCell' = true) (l : List D) : ∀ u ∈ l.flatMap cells, u.oneCell' = true := fun u hu => by
  obtain ⟨d, _, hd⟩ := List.mem_flatMap.1 hu
  exact h d u hd
theorem filter_take_succ {α : Type} (p : α → Bool) {l : List α} {k : Nat} {d : α} (h : l[k]? = some d) : (l.take (k + 1)).filter p = (l.take k).filter p ++ (if p d = true then [d] else []) := by
  rw [take_snoc' l k d h, List.filter_append]
  congr 1
  cases hp : p d <;> simp [hp]
end Go.Proofs.YtaebofpgdonnbaaDoor
