/- Rows of the call's own: appended to, kept. -/
import Derived.Test.YtaebofpgdonnbaaDoorInts
import Derived.Maps.AppendAt
import Derived.Deep.AppendLies
set_option linter.unusedVariables false
set_option linter.unusedSimpArgs false
namespace Go.Proofs.YtaebofpgdonnbaaDoor
open Go.RowKit

/-- an element appended to a row of the call's own: as a step of an operation, of a region that draws, of a list -/
theorem app_wp {P : Program} {o : Oper} {a : Act} {K : Act → World → Prop} {Q : Exit → Act → World → Prop} {W w : World} {t e : TypeId} {i0 : TypeInfo} {z : Value} {size bytes B n g : Nat} {v : Value} {xs news : List Value} (s x : Operand)
    (ho : o.op = .call { callee := .builtin .append, args := #[s, x], argTypes := #[t, t] })
    (ht : P.underlying t = some (.slice e)) (hi : P.info? e = some i0) (hz : i0.zero = some z) (hsize : i0.size = size) (hby : i0.bytes = bytes) (hzs : z.cells.size = size) (hsz : 0 < size) (hbytes : bytes ≤ 4096)
    (hs : a.eval s = v) (hown : w.ownsRow B e size v n xs) (hx : a.eval x = .slice (some ⟨g, 0, none⟩) 1 1) (hl : news.length = size) (hc : ∀ j u, news[j]? = some u → w.cell? ⟨g, j, none⟩ = some u) (h1 : ∀ u ∈ news, u.oneCell' = true) (hn : n ≤ 2097152) (hb : Below B W w) (hB : B ≤ W.heap.size)
    (h : ∀ v' w', w'.ownsRow B e size v' (n + 1) (xs ++ news) → w.grownBy w' v.ownBlock → (v'.ownBlock = v.ownBlock ∨ v'.ownBlock = some w.heap.size) → Below B W w' → K (a.put o.dst v') w') : o.wp P a w K Q := by
  have hsz' := hb.size
  have hbn : (n + 1) * bytes ≤ 140737488355328 := by
    have := Nat.mul_le_mul (show n + 1 ≤ 2097153 by omega) hbytes
    omega
  have hnews : ∀ j u, news[j]? = some u → w.cell? ((⟨g, 0, none⟩ : Addr).add j) = some u := fun j u hu => by
    have hadd : (⟨g, 0, none⟩ : Addr).add j = ⟨g, j, none⟩ := by unfold Addr.add; split <;> simp_all
    rw [hadd]; exact hc j u hu
  obtain ⟨v', w', hr, h2, h3, _, h5⟩ := run_append_own_at (P := P) w B t o.type e i0 z size bytes ht hi hz hsize hby hzs hsz v n xs hown ⟨g, 0, none⟩ 1 1 news (by simpa using hl) hnews h1 (by unfold maxLen; omega) hbn (by omega)
  unfold Oper.wp execOp
  simp only [ho, resolve, invoke, builtin, Sem.run_bind, Sem.run_pure, Result.andThen_ok, List.map_toArray, List.map_cons, List.map_nil, hs, hx, hr]
  exact h v' w' h2 h3 h5 (hb.grown h3 (by omega) (fun k hk => (hown.lt k hk).1))

theorem app_step {P : Program} {ops : Array Oper} {o : Oper} {a : Act} {K : Act → World → Prop} {Q : Exit → Act → World → Prop} {E : Prop} {W w : World} {t e : TypeId} {i0 : TypeInfo} {z : Value} {size bytes B n g : Nat} {v : Value} {xs news : List Value} (s x : Operand) (hgd : o.guard = none)
    (ho : o.op = .call { callee := .builtin .append, args := #[s, x], argTypes := #[t, t] })
    (ht : P.underlying t = some (.slice e)) (hi : P.info? e = some i0) (hz : i0.zero = some z) (hsize : i0.size = size) (hby : i0.bytes = bytes) (hzs : z.cells.size = size) (hsz : 0 < size) (hbytes : bytes ≤ 4096)
    (hs : a.eval s = v) (hown : w.ownsRow B e size v n xs) (hx : a.eval x = .slice (some ⟨g, 0, none⟩) 1 1) (hl : news.length = size) (hc : ∀ j u, news[j]? = some u → w.cell? ⟨g, j, none⟩ = some u) (h1 : ∀ u ∈ news, u.oneCell' = true) (hn : n ≤ 2097152) (hb : Below B W w) (hB : B ≤ W.heap.size)
    (h : ∀ v' w', w'.ownsRow B e size v' (n + 1) (xs ++ news) → w.grownBy w' v.ownBlock → (v'.ownBlock = v.ownBlock ∨ v'.ownBlock = some w.heap.size) → Below B W w' → K (a.put o.dst v') w') :
    if Region.wanted o (yielded ops a.tmps) = true then Oper.wp P o a w K Q else E := by
  have hw : Region.wanted o (yielded ops a.tmps) = true := by simp [Region.wanted, hgd]
  rw [if_pos hw]
  exact app_wp s x ho ht hi hz hsize hby hzs hsz hbytes hs hown hx hl hc h1 hn hb hB h

theorem app_list {P : Program} {ops : Array Oper} {rest : List Oper} {o : Oper} {a : Act} {Q : Exit → Act → World → Prop} {W w : World} {t e : TypeId} {i0 : TypeInfo} {z : Value} {size bytes B n g : Nat} {v : Value} {xs news : List Value} (s x : Operand) (hgd : o.guard = none)
    (ho : o.op = .call { callee := .builtin .append, args := #[s, x], argTypes := #[t, t] })
    (ht : P.underlying t = some (.slice e)) (hi : P.info? e = some i0) (hz : i0.zero = some z) (hsize : i0.size = size) (hby : i0.bytes = bytes) (hzs : z.cells.size = size) (hsz : 0 < size) (hbytes : bytes ≤ 4096)
    (hs : a.eval s = v) (hown : w.ownsRow B e size v n xs) (hx : a.eval x = .slice (some ⟨g, 0, none⟩) 1 1) (hl : news.length = size) (hc : ∀ j u, news[j]? = some u → w.cell? ⟨g, j, none⟩ = some u) (h1 : ∀ u ∈ news, u.oneCell' = true) (hn : n ≤ 2097152) (hb : Below B W w) (hB : B ≤ W.heap.size)
    (h : ∀ v' w', w'.ownsRow B e size v' (n + 1) (xs ++ news) → w.grownBy w' v.ownBlock → (v'.ownBlock = v.ownBlock ∨ v'.ownBlock = some w.heap.size) → Below B W w' → wpList P ops Q rest (a.put o.dst v') w') : wpList P ops Q (o :: rest) a w :=
  wpList_plain hgd fun _ hK => app_wp s x ho ht hi hz hsize hby hzs hsz hbytes hs hown hx hl hc h1 hn hb hB fun v' w' a b c d => hK _ _ (h v' w' a b c d)

theorem news1 {w : World} {g : Nat} {z : Value} (h : w.cell? ⟨g, 0, none⟩ = some z) : ∀ j u, [z][j]? = some u → w.cell? ⟨g, j, none⟩ = some u := fun j u hu => by
  match j, hu with
  | 0, hu => simp at hu; subst hu; exact h
  | j + 1, hu => simp at hu

theorem Rd.grown {D : Type} {w w' : World} {B sz : Nat} {cells : D → List Value} {A : Option Addr} {l : List D} {row : Option Nat} (h : Rd w B sz cells A l) (hg : w.grownBy w' row) (hB : B ≤ w.heap.size) (hne : ∀ a, A = some a → some a.block ≠ row) : Rd w' B sz cells A l := fun hl => by
  obtain ⟨b, off, e, hb, hc⟩ := h hl
  have hn := hne _ e
  exact ⟨b, off, e, hb, fun i d hi j u hj => by
    rw [World.cell?_of_block (w := w) (hg.block b (by omega) hn)]; exact hc i d hi j u hj⟩
theorem Rd.alloc {D : Type} {w : World} {B sz : Nat} {cells : D → List Value} {A : Option Addr} {l : List D} (h : Rd w B sz cells A l) (hB : B ≤ w.heap.size) (o : Obj) : Rd (w.alloc o) B sz cells A l := h.keep fun p hp => World.cell?_alloc_lt w o p (by omega)

theorem own_form {w : World} {base : Nat} {e : TypeId} {size : Nat} {v : Value} {n : Nat} {xs : List Value} (h : w.ownsRow base e size v n xs) : ∃ A c, v = .slice A n c ∧ (∀ a, A = some a → base ≤ a.block ∧ a.block < w.heap.size) := by
  have hlt := h.lt
  rcases h.2 with ⟨rfl, rfl⟩ | ⟨g, cap, cur, rfl, hb, hg, _⟩
  · exact ⟨none, 0, rfl, fun a h => by cases h⟩
  · refine ⟨_, cap, rfl, fun a h => ?_⟩
    injection h with h
    subst h
    exact hlt g rfl


end Go.Proofs.YtaebofpgdonnbaaDoor
