/- Contracts: a slice appended whole; copies; leading differences of the reference. -/
import Derived.Test.YtaebofpgdonnbaaDoorRows2
set_option linter.unusedVariables false
set_option linter.unusedSimpArgs false
namespace Go.Proofs.YtaebofpgdonnbaaDoor
open Go.RowKit

theorem run_append_of_nil {P : Program} (w : World) (base : Nat) (t ty e : TypeId) (i : TypeInfo) (size : Nat) (ht : P.underlying t = some (.slice e)) (hi : P.info? e = some i)
    (v : Value) (n : Nat) (xs : List Value) (hown : w.ownsRow base e size v n xs) (c : Nat) : (Builtin.append_ #[t, t] ty #[v, .slice none 0 c]).run P w = .ok v w := by
  rcases hown.2 with ⟨rfl, rfl⟩ | ⟨g, cap, cur, rfl, _, _, hnc, _⟩
  · simp [Builtin.append_, run_underlying ht, sizeOf, typeInfo, hi, Builtin.lenOf, Builtin.firstCells]
  · simp [Builtin.append_, run_underlying ht, sizeOf, typeInfo, hi, Builtin.lenOf, Builtin.firstCells, hnc, storeCells]

/-- a slice appended whole to a row of the call's own -/
theorem apps_list {P : Program} {ops : Array Oper} {rest : List Oper} {o : Oper} {a : Act} {Q : Exit → Act → World → Prop} {D : Type} {W w : World} {t e : TypeId} {i0 : TypeInfo} {z : Value} {size bytes B n m c Bs : Nat} {v : Value} {xs : List Value} {A : Option Addr} {cells : D → List Value} {l : List D} (s x : Operand) (hgd : o.guard = none)
    (ho : o.op = .call { callee := .builtin .append, args := #[s, x], argTypes := #[t, t] })
    (ht : P.underlying t = some (.slice e)) (hi : P.info? e = some i0) (hz : i0.zero = some z) (hsize : i0.size = size) (hby : i0.bytes = bytes) (hzs : z.cells.size = size) (hsz : 0 < size) (hbytes : bytes ≤ 4096)
    (hs : a.eval s = v) (hown : w.ownsRow B e size v n xs) (hx : a.eval x = .slice A m c) (hl : l.length = m) (hcl : ∀ d, (cells d).length = size) (hr : Rd w Bs size cells A l) (h1 : ∀ d, ∀ u ∈ cells d, u.oneCell' = true) (hn : n + m ≤ 2097152) (hb : Below B W w) (hB : B ≤ W.heap.size)
    (hA : A = none → m = 0)
    (h : ∀ v' w', w'.ownsRow B e size v' (n + m) (xs ++ l.flatMap cells) → w.grownBy w' v.ownBlock → (v'.ownBlock = v.ownBlock ∨ v'.ownBlock = some w.heap.size) → Below B W w' → wpList P ops Q rest (a.put o.dst v') w') : wpList P ops Q (o :: rest) a w := by
  refine wpList_plain hgd fun _ hK => ?_
  have hbn : (n + m) * bytes ≤ 140737488355328 := by
    have := Nat.mul_le_mul hn hbytes
    omega
  have hsz' := hb.size
  have key : ∃ v' w', (Builtin.append_ #[t, t] o.type #[v, .slice A m c]).run P w = .ok v' w' ∧ w'.ownsRow B e size v' (n + m) (xs ++ l.flatMap cells) ∧ w.grownBy w' v.ownBlock ∧ (v'.ownBlock = v.ownBlock ∨ v'.ownBlock = some w.heap.size) := by
    rcases A with _ | ad
    · have hm : m = 0 := hA rfl
      subst hm
      have hl0 : l = [] := List.eq_nil_of_length_eq_zero hl
      subst hl0
      exact ⟨v, w, run_append_of_nil w B t o.type e i0 size ht hi v n xs hown c, by simpa using hown, World.grownBy.refl w _, .inl rfl⟩
    · have hnews : ∀ j u, (l.flatMap cells)[j]? = some u → w.cell? (ad.add j) = some u := by
        intro j u hu
        have hjl := (List.getElem?_eq_some_iff.1 hu).1
        rw [flat_len cells size hcl] at hjl
        have hl0 : 0 < l.length := by
          rcases Nat.eq_zero_or_pos l.length with h0 | h0
          · rw [h0] at hjl; simp at hjl
          · exact h0
        obtain ⟨b, off, hA', _, hc⟩ := hr hl0
        injection hA' with hA'
        subst hA'
        have hq : j / size < l.length := by rw [Nat.div_lt_iff_lt_mul hsz]; exact hjl
        have hd : l[j / size]? = some l[j / size] := List.getElem?_eq_getElem hq
        have hm' : j % size < (cells l[j / size]).length := by rw [hcl]; exact Nat.mod_lt _ hsz
        have hu' : (cells l[j / size])[j % size]? = some ((cells l[j / size])[j % size]'hm') := List.getElem?_eq_getElem hm'
        have e1 := flat_get cells size hcl l _ _ hd _ _ hu'
        have e2 : j / size * size + j % size = j := by rw [Nat.mul_comm]; exact Nat.div_add_mod j size
        rw [e2] at e1
        rw [e1] at hu
        injection hu with hu
        subst hu
        have := hc _ _ hd _ _ hu'
        have hadd : (⟨b, off, none⟩ : Addr).add j = ⟨b, off + j, none⟩ := by unfold Addr.add; split <;> simp_all
        rw [hadd, ← this, Nat.add_assoc, e2]
      have hone : ∀ u ∈ l.flatMap cells, u.oneCell' = true := fun u hu => by
        obtain ⟨d, _, hd⟩ := List.mem_flatMap.1 hu
        exact h1 d u hd
      obtain ⟨v', w', hr, h2, h3, _, h5⟩ := run_append_own_at (P := P) w B t o.type e i0 z size bytes ht hi hz hsize hby hzs hsz v n xs hown ad m c (l.flatMap cells) (by rw [flat_len cells size hcl, hl]) hnews hone (by unfold maxLen; omega) hbn (by omega)
      exact ⟨v', w', hr, h2, h3, h5⟩
  obtain ⟨v', w', hr, h2, h3, h5⟩ := key
  unfold Oper.wp execOp
  simp only [ho, resolve, invoke, builtin, Sem.run_bind, Sem.run_pure, Result.andThen_ok, List.map_toArray, List.map_cons, List.map_nil, hs, hx, hr]
  exact hK _ _ (h v' w' h2 h3 h5 (hb.grown h3 (by omega) (fun k hk => (hown.lt k hk).1)))

theorem own_below {w w' : World} {base B : Nat} {e : TypeId} {size : Nat} {v : Value} {n : Nat} {xs : List Value} (h : w.ownsRow base e size v n xs) (hb : Below B w w') (hB : ∀ k, v.ownBlock = some k → k < B) : w'.ownsRow base e size v n xs := by
  refine ⟨h.1, ?_⟩
  rcases h.2 with hn | ⟨g, cap, cur, rfl, hg, hgg, rest⟩
  · exact .inl hn
  · exact .inr ⟨g, cap, cur, rfl, hg, by rw [hb.block g (hB g rfl)]; exact hgg, rest⟩
theorem icell_one (n : Int) : ∀ u ∈ icell n, u.oneCell' = true := by simp [icell, Value.oneCell']


end Go.Proofs.YtaebofpgdonnbaaDoor
