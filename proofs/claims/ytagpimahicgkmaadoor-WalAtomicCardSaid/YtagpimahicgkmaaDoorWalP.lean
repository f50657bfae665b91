/- Walk: wal.suits. Plain: the plan of a transaction. -/
import Derived.Test.YtagpimahicgkmaaDoorWalD
import Derived.Test.YtagpimahicgkmaaDoorDkPut
namespace Go.Proofs.YtagpimahicgkmaaDoor
open Go.RowKit

def suitsB (d : Dk) : Bool := decide (61 < d.sec.length) && rightB d
set_option maxHeartbeats 1000000 in
theorem suits_any (V : List Nat) (d : Dk) (v : Value) (w : World) (h : DkAt V w v d) :
    Calls Tryd.prog 42 #[v] w fun e w' => e = .returned (.bool (suitsB d)) ∧ Kept w w' := by
  have H := Lib.hid h
  obtain ⟨_, _, rfl, ⟨A, c, rfl, hl, hm, hr⟩, ⟨A', c', rfl, hl', hm', hr'⟩⟩ := h
  unfold maxLen at hm hm'
  clear hr hr'
  by_cases h1 : 61 < d.sec.length
  · have h1' : (61 : Int) < (d.sec.length : Int) := by omega
    have hs : Hid (suitsB d = rightB d) := by show _ = _; simp [suitsB, h1]
    go_enter Tryd.func42, Tryd.ntmps42
    have K : Kept w (w.alloc (.cells #[.slice A d.sec.length c, .slice A' d.cache.length c'] 25)) := (Kept.refl w).alloc _
    go_wp2_with fail
    refine (right_any V d _ _ (H.out.go K (Ext.refl _ _))).mono ?_
    rintro e w1 ⟨rfl, hk⟩
    replace K := K.trans hk
    go_wp2
    go_ret
    exact ⟨by rw [hs.out]; rfl, K⟩
  · have h1' : ¬ (61 : Int) < (d.sec.length : Int) := by omega
    have hs : Hid (suitsB d = false) := by show _ = _; simp [suitsB, h1]
    go_enter Tryd.func42, Tryd.ntmps42
    go_wp2
    go_ret
    exact ⟨by rw [hs.out]; rfl, (Kept.refl w).alloc _⟩

section
variable {T e : TypeId} {B b : Nat} {p : Value} {bs : List Value} {w w' : World}
/-- A builder lies in each world in which the blocks from B on are as they were. -/
theorem bd_same (h : Lib.BuilderAt T e B b p bs w) (hk : ∀ k, B ≤ k → k < w.heap.size → w'.heap[k]? = w.heap[k]?) : Lib.BuilderAt T e B b p bs w' := by
  have hlt := h.lt
  obtain ⟨hB, v, hb, hown, hne⟩ := h
  refine ⟨hB, v, by rw [hk b hB hlt]; exact hb, ⟨hown.1, ?_⟩, hne⟩
  rcases hown.2 with hn | ⟨g, cap, cur, hv, hg, hh, rest⟩
  · exact .inl hn
  · refine .inr ⟨g, cap, cur, hv, hg, ?_, rest⟩
    have hl : g < w.heap.size := by
      rcases Nat.lt_or_ge g w.heap.size with h' | h'
      · exact h'
      · rw [Array.getElem?_eq_none h'] at hh; cases hh
    rw [hk g hg hl]; exact hh
theorem bd_kept (h : Lib.BuilderAt T e B b p bs w) (k : Kept w w') : Lib.BuilderAt T e B b p bs w' := bd_same h fun j _ hj => k.block j hj
theorem bd_grown (h : Lib.BuilderAt T e B b p bs w) {g : Nat} (hg : w.grownBy w' (some g)) (hlt : g < B) : Lib.BuilderAt T e B b p bs w' :=
  bd_same h fun j hj hs => hg.block j hs (by intro e; injection e with e; omega)
theorem bd_new (w : World) (T e : TypeId) : Lib.BuilderAt T e w.heap.size w.heap.size (.pointer none) [] (w.alloc (.cells #[.pointer none, .slice none 0 0] T)) :=
  ⟨Nat.le_refl _, _, heap_alloc_new w _, ⟨rfl, .inl ⟨rfl, rfl⟩⟩, by intro h; cases h⟩
end

section
variable {P : Program} {sl e : TypeId} {size bytes : Nat} {α : Type} {f : α → List Value}
/-- An append for which there is room: the same block. -/
theorem Elem.wp_fit (E : Elem P sl e size bytes f) {w : World} {o : Oper} {a : Act} {K : Act → World → Prop} {Q : Exit → Act → World → Prop} (s x : Operand)
    (ho : o.op = .call { callee := .builtin .append, args := #[s, x], argTypes := #[sl, sl] })
    (base g cap : Nat) (l : List α) (hs : a.eval s = .slice (some ⟨g, 0, none⟩) l.length cap) (hown : w.ownsRow base e size (.slice (some ⟨g, 0, none⟩) l.length cap) l.length (l.flatMap f))
    (b c : Nat) (m : List α) (hx : a.eval x = .slice (some ⟨b, 0, none⟩) m.length c) (hc : Own w b e (m.flatMap f)) (h1 : ∀ u ∈ m.flatMap f, u.oneCell' = true) (hroom : l.length + m.length ≤ cap)
    (h : ∀ w', w'.ownsRow base e size (.slice (some ⟨g, 0, none⟩) (l ++ m).length cap) (l ++ m).length ((l ++ m).flatMap f) → w.grownBy w' (some g) → K (a.put o.dst (.slice (some ⟨g, 0, none⟩) (l ++ m).length cap)) w') : o.wp P a w K Q := by
  obtain ⟨i, z, hi, hz, hsz, hb, hzs⟩ := E.info
  obtain ⟨w', hrun, hw, hg⟩ := run_append_fits (P := P) w base sl o.type e i size E.und hi hsz g l.length cap (l.flatMap f) hown ⟨b, 0, none⟩ m.length c (m.flatMap f) (E.cells_length m) (fun j u hu => by
    rw [Addr.add_mid, Nat.zero_add, hc.cell?]; exact hu) h1 hroom
  unfold Oper.wp execOp
  simp only [ho, resolve, invoke, builtin, Sem.run_bind, Sem.run_pure, Result.andThen_ok, List.map_toArray, List.map_cons, List.map_nil, hs, hx, hrun]
  have := h w' (by rw [List.length_append, List.flatMap_append]; exact hw) hg
  rwa [List.length_append] at this
theorem Elem.wpList_fit (E : Elem P sl e size bytes f) {w : World} {ops : Array Oper} {rest : List Oper} {o : Oper} {a : Act} {Q : Exit → Act → World → Prop} (hgd : o.guard = none) (s x : Operand)
    (ho : o.op = .call { callee := .builtin .append, args := #[s, x], argTypes := #[sl, sl] })
    (base g cap : Nat) (l : List α) (hs : a.eval s = .slice (some ⟨g, 0, none⟩) l.length cap) (hown : w.ownsRow base e size (.slice (some ⟨g, 0, none⟩) l.length cap) l.length (l.flatMap f))
    (b c : Nat) (m : List α) (hx : a.eval x = .slice (some ⟨b, 0, none⟩) m.length c) (hc : Own w b e (m.flatMap f)) (h1 : ∀ u ∈ m.flatMap f, u.oneCell' = true) (hroom : l.length + m.length ≤ cap)
    (h : ∀ w', w'.ownsRow base e size (.slice (some ⟨g, 0, none⟩) (l ++ m).length cap) (l ++ m).length ((l ++ m).flatMap f) → w.grownBy w' (some g) → wpList P ops Q rest (a.put o.dst (.slice (some ⟨g, 0, none⟩) (l ++ m).length cap)) w') : wpList P ops Q (o :: rest) a w :=
  wpList_plain hgd fun _ hK => E.wp_fit s x ho base g cap l hs hown b c m hx hc h1 hroom fun w' h2 h3 => hK _ _ (h w' h2 h3)
theorem Elem.step_fit (E : Elem P sl e size bytes f) {w : World} {ops : Array Oper} {o : Oper} {a : Act} {K : Act → World → Prop} {Q : Exit → Act → World → Prop} {F : Prop} (hgd : o.guard = none) (s x : Operand)
    (ho : o.op = .call { callee := .builtin .append, args := #[s, x], argTypes := #[sl, sl] })
    (base g cap : Nat) (l : List α) (hs : a.eval s = .slice (some ⟨g, 0, none⟩) l.length cap) (hown : w.ownsRow base e size (.slice (some ⟨g, 0, none⟩) l.length cap) l.length (l.flatMap f))
    (b c : Nat) (m : List α) (hx : a.eval x = .slice (some ⟨b, 0, none⟩) m.length c) (hc : Own w b e (m.flatMap f)) (h1 : ∀ u ∈ m.flatMap f, u.oneCell' = true) (hroom : l.length + m.length ≤ cap)
    (h : ∀ w', w'.ownsRow base e size (.slice (some ⟨g, 0, none⟩) (l ++ m).length cap) (l ++ m).length ((l ++ m).flatMap f) → w.grownBy w' (some g) → K (a.put o.dst (.slice (some ⟨g, 0, none⟩) (l ++ m).length cap)) w') :
    if Region.wanted o (yielded ops a.tmps) = true then Oper.wp P o a w K Q else F := by
  have hw : Region.wanted o (yielded ops a.tmps) = true := by simp [Region.wanted, hgd]
  rw [if_pos hw]
  exact E.wp_fit s x ho base g cap l hs hown b c m hx hc h1 hroom h
end

def okW (d : Dk) (x : Wr) : Bool := decide (61 ≤ x.at_) && decide (x.at_ < d.sec.length) && x.data.size == 64
/-- The error of a transaction. -/
def planErr (d : Dk) (l : List Wr) : Int := if suitsB d = false ∨ l.length = 0 then 1 else if l.all (okW d) = false then 1 else if 30 < l.length then 4 else 0
def atW (l : List Wr) (k : Nat) : Wr := l.getD k ⟨0, ⟨#[]⟩⟩
def opF : WOp := ⟨true, ⟨0, ⟨#[]⟩⟩⟩
/-- The operations of the first entries, and their sectors. -/
def entTo (l : List Wr) : Nat → List WOp
  | 0 => []
  | k + 1 => entTo l k ++ [⟨false, ⟨1 + 2 * (k : Int), dst (atW l k).at_.toNat⟩⟩, ⟨false, ⟨2 + 2 * (k : Int), (atW l k).data⟩⟩]
def allTo (l : List Wr) : Nat → List UInt8
  | 0 => []
  | k + 1 => allTo l k ++ (dst (atW l k).at_.toNat).data.toList ++ (atW l k).data.data.toList
def planOps (l : List Wr) : List WOp :=
  entTo l l.length ++ [opF, ⟨false, ⟨0, hdr l.length ⟨(allTo l l.length).toArray⟩⟩⟩, opF] ++ l.map (fun x => ⟨false, x⟩) ++ [opF, ⟨false, ⟨0, zerosB 64⟩⟩, opF]
def OpsAt (V : List Nat) (w : World) (v : Value) (l : List WOp) : Prop :=
  ∃ A c, v = .slice A l.length c ∧ l.length ≤ c ∧ c ≤ maxLen ∧ Row V w A (l.flatMap opC)
theorem opC_one (l : List WOp) : ∀ u ∈ l.flatMap opC, u.oneCell' = true := by
  intro u hu
  obtain ⟨x, _, hx⟩ := List.mem_flatMap.1 hu
  simp only [opC, List.mem_cons, List.not_mem_nil, or_false] at hx
  rcases hx with rfl | rfl | rfl <;> rfl
theorem entTo_len (l : List Wr) : ∀ k, (entTo l k).length = 2 * k
  | 0 => rfl
  | k + 1 => by rw [entTo, List.length_append, entTo_len l k]; rfl
theorem planOps_len (l : List Wr) : (planOps l).length = 3 * l.length + 6 := by
  unfold planOps
  simp only [List.length_append, entTo_len, List.length_map, List.length_cons, List.length_nil]
  omega
end Go.Proofs.YtagpimahicgkmaaDoor
