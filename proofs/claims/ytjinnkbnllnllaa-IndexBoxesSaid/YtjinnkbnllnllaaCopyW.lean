/- Lists that are copied within; 'copy' of elements of any size. Of no program. -/
import Derived.Test.YtjinnkbnllnllaaElem
import Derived.Lib.Overlaps
import Derived.Lib.AppendZeros
import Derived.Lib.AppendZerosOnto
import Derived.Laws.Externs
import Derived.Laws.CopyRow
import Derived.Test.YtjinnkbnllnllaaIxDel
namespace Go.Proofs.Ytjinnkbnllnllaa
open Go.RowKit

theorem run_copy_wide {P : Program} (w : World) (dT sT ty elem : TypeId) (sz g o dLen dCap : Nat) (a : Addr) (sLen sCap : Nat) (cur : Array Value) (t : TypeId) (cs : List Value)
    (hu : P.underlying dT = some (.slice elem)) (hs : (P.info? elem).map (·.size) = some sz)
    (hg : w.heap[g]? = some (.cells cur t (0, 0))) (hn : cs.length = Nat.min sLen dLen * sz)
    (hsrc : ∀ j v, cs[j]? = some v → w.cell? (a.add j) = some v) (hfit : o + cs.length ≤ cur.size) (h1 : ∀ v ∈ cs, v.oneCell' = true) :
    (Builtin.copy_ #[dT, sT] ty #[.slice (some ⟨g, o, none⟩) dLen dCap, .slice (some a) sLen sCap]).run P w =
      .ok (goInt (Nat.min sLen dLen)) (w.setRow g (cur.toList.take o ++ cs ++ cur.toList.drop (o + cs.length)).toArray) := by
  have hl := run_loadCells_list (P := P) w a cs hsrc
  have hst := run_storeCells_at P g o t cs 0 cur w hg (by simpa using hfit) h1
  cases hq : P.info? elem with
  | none => simp [hq] at hs
  | some i =>
    have hi : i.size = sz := by simpa [hq] using hs
    simp [Builtin.copy_, run_underlying hu, Builtin.lenOf, Builtin.firstCells, sizeOf, typeInfo, hq, hi, ← hn, hl, hst]
theorem wpList_copy_runW {P : Program} (w : World) {ops : Array Oper} {rest : List Oper} {o : Oper} {a : Act} {Q : Exit → Act → World → Prop} (hgd : o.guard = none) (d s : Operand) (t t' : TypeId)
    (ho : o.op = .call { callee := .builtin .copy, args := #[d, s], argTypes := #[t, t'] }) (v u : Value) (hd : a.eval d = v) (hs : a.eval s = u) {v' : Value} {w' : World}
    (hr : (Builtin.copy_ #[t, t'] o.type #[v, u]).run P w = .ok v' w') (h : wpList P ops Q rest (a.put o.dst v') w') : wpList P ops Q (o :: rest) a w :=
  wpList_plain hgd fun _ hK => by
    unfold Oper.wp execOp
    simp only [ho, resolve, invoke, builtin, Sem.run_bind, Sem.run_pure, Result.andThen_ok, List.map_toArray, List.map_cons, List.map_nil, hd, hs, hr]
    exact hK _ _ h

theorem shift_list {cur T D V : List Value} {sz : Nat} (hV : V.length = sz) (ht : cur.take (T.length + D.length) = T ++ D) (hl : T.length + sz + D.length ≤ cur.length) {R1 R2 : List Value}
    (h1 : R1 = cur.take (T.length + sz) ++ D ++ cur.drop (T.length + sz + D.length)) (h2 : R2 = R1.take T.length ++ V ++ R1.drop (T.length + V.length)) :
    R1.length = cur.length ∧ R2.length = cur.length ∧ R2.take (T.length + sz + D.length) = T ++ V ++ D := by
  have hT : cur.take T.length = T := by
    have := congrArg (List.take T.length) ht
    rw [List.take_take, Nat.min_eq_left (by omega), List.take_left' rfl] at this
    exact this
  have hA : (cur.take (T.length + sz)).length = T.length + sz := by rw [List.length_take]; omega
  have e1 : R1.length = cur.length := by rw [h1]; simp only [List.length_append, hA, List.length_drop]; omega
  have e2 : R1.take T.length = T := by rw [h1, List.append_assoc, List.take_append_of_le_length (by omega), List.take_take, Nat.min_eq_left (by omega), hT]
  have e3 : R1.drop (T.length + V.length) = D ++ cur.drop (T.length + sz + D.length) := by rw [h1, List.append_assoc, hV, List.drop_left' hA]
  rw [e2, e3] at h2
  refine ⟨e1, by rw [h2]; simp only [List.length_append, List.length_drop]; omega, ?_⟩
  rw [h2, ← List.append_assoc]
  exact List.take_left' (by simp only [List.length_append]; omega)
theorem grow_list {T Z D V : List Value} {sz : Nat} (hV : V.length = sz) (hl : sz + D.length ≤ Z.length) {R1 R2 : List Value}
    (h1 : R1 = (T ++ Z).take T.length ++ V ++ (T ++ Z).drop (T.length + V.length)) (h2 : R2 = R1.take (T.length + sz) ++ D ++ R1.drop (T.length + sz + D.length)) :
    R1.length = T.length + Z.length ∧ R2.length = T.length + Z.length ∧ R2.take (T.length + sz + D.length) = T ++ V ++ D := by
  rw [List.take_left' rfl] at h1
  have e1 : R1.length = T.length + Z.length := by rw [h1]; simp only [List.length_append, List.length_drop]; omega
  have e2 : R1.take (T.length + sz) = T ++ V := by rw [h1]; exact List.take_left' (by simp only [List.length_append]; omega)
  rw [e2] at h2
  refine ⟨e1, by rw [h2]; simp only [List.length_append, List.length_drop]; omega, ?_⟩
  rw [h2]
  exact List.take_left' (by simp only [List.length_append]; omega)
theorem grown_setRow {w : World} (g : Nat) (cs : Array Value) : w.grownBy (w.setRow g cs) (some g) :=
  ⟨rfl, rfl, rfl, by rw [size_setRow]; exact Nat.le_refl _, fun k _ hn => setRow_other w g k cs (fun e => hn (by rw [e]))⟩
theorem own_of_heap {w w' : World} {g : Nat} {t : TypeId} {cs : List Value} (h : Own w g t cs) (e : w'.heap[g]? = w.heap[g]?) : Own w' g t cs := e.trans h
end Go.Proofs.Ytjinnkbnllnllaa
