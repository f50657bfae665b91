/- The index in plain Lean: mails, mailboxes; how they lie in memory. -/
import Derived.Test.YtjinnkbnllnllaaMem
namespace Go.Proofs.Ytjinnkbnllnllaa
open Go.RowKit

structure Ml where
  uid : Int
  flags : Int
  obj : Int
  size : Int
structure Bx where
  name : ByteArray
  val : Int
  next : Int
  mails : List Ml
structure Ix where
  boxes : List Bx
  subs : List ByteArray
  given : Int

def strs (l : List ByteArray) : List Value := l.map Value.string
theorem strs_length (l : List ByteArray) : (strs l).length = l.length := by simp [strs]
theorem strs_at {l : List ByteArray} {k : Nat} (h : k < l.length) : (strs l)[k]? = some (.string l[k]) := by simp [strs, h]

def mlc (x : Ml) : List Value := [.int .i64 x.uid, .int .i64 x.flags, .int .i64 x.obj, .int .i64 x.size]
def mls (l : List Ml) : List Value := l.flatMap mlc
/-- A mailbox and the value of its slice of mails. -/
abbrev Bp := Bx × Value
def bxc (p : Bp) : List Value := [.string p.1.name, .int .i64 p.1.val, .int .i64 p.1.next, p.2]
def bxs (l : List Bp) : List Value := l.flatMap bxc

theorem flat4_length {α : Type} (f : α → List Value) (hf : ∀ a, (f a).length = 4) (l : List α) : (l.flatMap f).length = l.length * 4 := by
  induction l with
  | nil => rfl
  | cons a l ih => rw [List.flatMap_cons, List.length_append, ih, hf, List.length_cons]; omega
theorem flat4_at {α : Type} (f : α → List Value) (hf : ∀ a, (f a).length = 4) (l : List α) (k j : Nat) (h : k < l.length) (hj : j < 4) : (l.flatMap f)[k * 4 + j]? = (f l[k])[j]? := by
  induction l generalizing k with
  | nil => simp at h
  | cons a l ih =>
    rw [List.flatMap_cons]
    cases k with
    | zero => rw [List.getElem?_append_left (by rw [hf]; omega)]; simp
    | succ k =>
      rw [List.getElem?_append_right (by rw [hf]; omega), hf, show (k + 1) * 4 + j - 4 = k * 4 + j by omega, ih k (by simpa using h)]
      simp
theorem flat4_set {α : Type} (f : α → List Value) (hf : ∀ a, (f a).length = 4) (l : List α) (k j : Nat) (hj : j < 4) (a : α) (u : Value) (h : k < l.length) (ha : f a = (f l[k]).set j u) : (l.set k a).flatMap f = (l.flatMap f).set (k * 4 + j) u := by
  induction l generalizing k with
  | nil => simp at h
  | cons b l ih =>
    cases k with
    | zero =>
      simp only [List.set_cons_zero, List.flatMap_cons, Nat.zero_mul, Nat.zero_add, List.getElem_cons_zero] at *
      rw [ha, List.set_append_left _ _ (by rw [hf]; omega)]
    | succ k =>
      simp only [List.set_cons_succ, List.flatMap_cons, List.getElem_cons_succ] at *
      rw [List.set_append_right _ _ (by rw [hf]; omega), hf, show (k + 1) * 4 + j - 4 = k * 4 + j by omega, ih k (by simpa using h) ha]
theorem mlc_four (x : Ml) : (mlc x).length = 4 := rfl
theorem bxc_four (p : Bp) : (bxc p).length = 4 := rfl
theorem mls_length (l : List Ml) : (mls l).length = l.length * 4 := flat4_length _ mlc_four l
theorem bxs_length (l : List Bp) : (bxs l).length = l.length * 4 := flat4_length _ bxc_four l
theorem mls_append (a b : List Ml) : mls (a ++ b) = mls a ++ mls b := by simp [mls]
theorem bxs_append (a b : List Bp) : bxs (a ++ b) = bxs a ++ bxs b := by simp [bxs]
theorem mls_at {l : List Ml} {k : Nat} (h : k < l.length) : (mls l)[k * 4]? = some (.int .i64 l[k].uid) ∧ (mls l)[k * 4 + 1]? = some (.int .i64 l[k].flags) ∧ (mls l)[k * 4 + 2]? = some (.int .i64 l[k].obj) ∧ (mls l)[k * 4 + 3]? = some (.int .i64 l[k].size) :=
  ⟨flat4_at _ mlc_four l k 0 h (by omega), flat4_at _ mlc_four l k 1 h (by omega), flat4_at _ mlc_four l k 2 h (by omega), flat4_at _ mlc_four l k 3 h (by omega)⟩
theorem bxs_at {l : List Bp} {k : Nat} (h : k < l.length) : (bxs l)[k * 4]? = some (.string l[k].1.name) ∧ (bxs l)[k * 4 + 1]? = some (.int .i64 l[k].1.val) ∧ (bxs l)[k * 4 + 2]? = some (.int .i64 l[k].1.next) ∧ (bxs l)[k * 4 + 3]? = some l[k].2 :=
  ⟨flat4_at _ bxc_four l k 0 h (by omega), flat4_at _ bxc_four l k 1 h (by omega), flat4_at _ bxc_four l k 2 h (by omega), flat4_at _ bxc_four l k 3 h (by omega)⟩

def StrsAt (V : List Nat) (w : World) (v : Value) (l : List ByteArray) : Prop :=
  ∃ A c, v = .slice A l.length c ∧ l.length ≤ c ∧ c ≤ maxLen ∧ Row V w A (strs l)
def MlsAt (V : List Nat) (w : World) (v : Value) (l : List Ml) : Prop :=
  ∃ A c, v = .slice A l.length c ∧ l.length ≤ c ∧ c ≤ maxLen ∧ Row V w A (mls l)
/-- The mailboxes ps lie behind v, and the mails of each behind its own slice. -/
def BpsAt (V : List Nat) (w : World) (v : Value) (ps : List Bp) : Prop :=
  (∃ A c, v = .slice A ps.length c ∧ ps.length ≤ c ∧ c ≤ maxLen ∧ Row V w A (bxs ps)) ∧ ∀ p ∈ ps, MlsAt V w p.2 p.1.mails
def BxsAt (V : List Nat) (w : World) (v : Value) (l : List Bx) : Prop := ∃ ps : List Bp, ps.map (·.1) = l ∧ BpsAt V w v ps
def IxAt (V : List Nat) (w : World) (v : Value) (x : Ix) : Prop :=
  ∃ b s, v = .agg #[b, s, .int .i64 x.given] ∧ BxsAt V w b x.boxes ∧ StrsAt V w s x.subs

section
variable {V U : List Nat} {w w' : World} {v : Value}
theorem StrsAt.go {l : List ByteArray} (h : StrsAt V w v l) (k : Kept w w') (hU : Ext U w V) : StrsAt U w' v l := by
  obtain ⟨A, c, e, h1, h2, h3⟩ := h; exact ⟨A, c, e, h1, h2, h3.go k hU⟩
theorem MlsAt.go {l : List Ml} (h : MlsAt V w v l) (k : Kept w w') (hU : Ext U w V) : MlsAt U w' v l := by
  obtain ⟨A, c, e, h1, h2, h3⟩ := h; exact ⟨A, c, e, h1, h2, h3.go k hU⟩
theorem BpsAt.go {l : List Bp} (h : BpsAt V w v l) (k : Kept w w') (hU : Ext U w V) : BpsAt U w' v l := by
  obtain ⟨⟨A, c, e, h1, h2, h3⟩, h4⟩ := h; exact ⟨⟨A, c, e, h1, h2, h3.go k hU⟩, fun p hp => (h4 p hp).go k hU⟩
theorem BxsAt.go {l : List Bx} (h : BxsAt V w v l) (k : Kept w w') (hU : Ext U w V) : BxsAt U w' v l := by
  obtain ⟨ps, e, h1⟩ := h; exact ⟨ps, e, h1.go k hU⟩
theorem IxAt.go {x : Ix} (h : IxAt V w v x) (k : Kept w w') (hU : Ext U w V) : IxAt U w' v x := by
  obtain ⟨b, s, e, h1, h2⟩ := h; exact ⟨b, s, e, h1.go k hU, h2.go k hU⟩
theorem StrsAt.put {l : List ByteArray} (h : StrsAt V w v l) {p : Addr} (hp : p.block ∈ V) (u : Value) : StrsAt V (w.setCell p u) v l := by
  obtain ⟨A, c, e, h1, h2, h3⟩ := h; exact ⟨A, c, e, h1, h2, h3.put hp u⟩
theorem MlsAt.put {l : List Ml} (h : MlsAt V w v l) {p : Addr} (hp : p.block ∈ V) (u : Value) : MlsAt V (w.setCell p u) v l := by
  obtain ⟨A, c, e, h1, h2, h3⟩ := h; exact ⟨A, c, e, h1, h2, h3.put hp u⟩
theorem BpsAt.put {l : List Bp} (h : BpsAt V w v l) {p : Addr} (hp : p.block ∈ V) (u : Value) : BpsAt V (w.setCell p u) v l := by
  obtain ⟨⟨A, c, e, h1, h2, h3⟩, h4⟩ := h; exact ⟨⟨A, c, e, h1, h2, h3.put hp u⟩, fun q hq => (h4 q hq).put hp u⟩
theorem BxsAt.put {l : List Bx} (h : BxsAt V w v l) {p : Addr} (hp : p.block ∈ V) (u : Value) : BxsAt V (w.setCell p u) v l := by
  obtain ⟨ps, e, h1⟩ := h; exact ⟨ps, e, h1.put hp u⟩
theorem IxAt.put {x : Ix} (h : IxAt V w v x) {p : Addr} (hp : p.block ∈ V) (u : Value) : IxAt V (w.setCell p u) v x := by
  obtain ⟨b, s, e, h1, h2⟩ := h; exact ⟨b, s, e, h1.put hp u, h2.put hp u⟩
theorem IxAt.weak {x : Ix} (h : IxAt V w v x) (hU : ∀ k ∈ U, k ∈ V) : IxAt U w v x := h.go (Kept.refl _) (fun k hk => .inl (hU k hk))
theorem MlsAt.form {l : List Ml} (h : MlsAt V w v l) : ∃ A c, v = .slice A l.length c := by obtain ⟨A, c, e, _⟩ := h; exact ⟨A, c, e⟩
theorem StrsAt.form {l : List ByteArray} (h : StrsAt V w v l) : ∃ A c, v = .slice A l.length c := by obtain ⟨A, c, e, _⟩ := h; exact ⟨A, c, e⟩
theorem BxsAt.form {l : List Bx} (h : BxsAt V w v l) : ∃ A c, v = .slice A l.length c := by
  obtain ⟨ps, e, ⟨A, c, e', _⟩, _⟩ := h; exact ⟨A, c, by rw [e', ← e, List.length_map]⟩
theorem IxAt.form {x : Ix} (h : IxAt V w v x) : ∃ A c A' c', v = .agg #[.slice A x.boxes.length c, .slice A' x.subs.length c', .int .i64 x.given] := by
  obtain ⟨b, s, e, h1, h2⟩ := h
  obtain ⟨A, c, rfl⟩ := h1.form
  obtain ⟨A', c', rfl⟩ := h2.form
  exact ⟨A, c, A', c', e⟩
theorem IxAt.parts {x : Ix} {b s : Value} {g : Int} (h : IxAt V w (.agg #[b, s, .int .i64 g]) x) : g = x.given ∧ BxsAt V w b x.boxes ∧ StrsAt V w s x.subs := by
  obtain ⟨b', s', e, h1, h2⟩ := h
  simp only [Value.agg.injEq, Array.mk.injEq, List.cons.injEq, Value.int.injEq, and_true, true_and] at e
  obtain ⟨rfl, rfl, rfl⟩ := e
  exact ⟨rfl, h1, h2⟩
end
theorem strsAt_nil (V : List Nat) (w : World) : StrsAt V w (.slice none 0 0) [] := ⟨none, 0, rfl, Nat.le_refl _, Nat.zero_le _, Row.nil _ _ _⟩
theorem mlsAt_nil (V : List Nat) (w : World) : MlsAt V w (.slice none 0 0) [] := ⟨none, 0, rfl, Nat.le_refl _, Nat.zero_le _, Row.nil _ _ _⟩
theorem bxsAt_nil (V : List Nat) (w : World) : BxsAt V w (.slice none 0 0) [] := ⟨[], rfl, ⟨none, 0, rfl, Nat.le_refl _, Nat.zero_le _, Row.nil _ _ _⟩, fun _ h => by cases h⟩

/-- The cells of the mailboxes l behind b, o; mv: the values of their slices of mails. -/
def Bc (V : List Nat) (w : World) (b o : Nat) (l : List Bx) (mv : Nat → Value) : Prop :=
  ∀ k (h : k < l.length), w.cell? ⟨b, o + k * 4, none⟩ = some (.string l[k].name) ∧ w.cell? ⟨b, o + k * 4 + 1, none⟩ = some (.int .i64 l[k].val) ∧ w.cell? ⟨b, o + k * 4 + 2, none⟩ = some (.int .i64 l[k].next) ∧ w.cell? ⟨b, o + k * 4 + 3, none⟩ = some (mv k) ∧ MlsAt V w (mv k) l[k].mails
theorem Bc.go {V U : List Nat} {w w' : World} {b o : Nat} {l : List Bx} {mv : Nat → Value} (h : Bc V w b o l mv) (hb : b < w.heap.size) (k : Kept w w') (hU : Ext U w V) : Bc U w' b o l mv := fun j hj => by
  obtain ⟨h1, h2, h3, h4, h5⟩ := h j hj
  exact ⟨(k.cell (p := ⟨b, o + j * 4, none⟩) hb).trans h1, (k.cell (p := ⟨b, o + j * 4 + 1, none⟩) hb).trans h2, (k.cell (p := ⟨b, o + j * 4 + 2, none⟩) hb).trans h3, (k.cell (p := ⟨b, o + j * 4 + 3, none⟩) hb).trans h4, h5.go k hU⟩
theorem BxsAt.open_ {V : List Nat} {w : World} {v : Value} {l : List Bx} (h : BxsAt V w v l) :
    ∃ A c, v = .slice A l.length c ∧ l.length ≤ c ∧ c ≤ maxLen ∧ (0 < l.length → ∃ b o mv, A = some ⟨b, o, none⟩ ∧ b < w.heap.size ∧ b ∉ V ∧ Bc V w b o l mv) := by
  obtain ⟨ps, rfl, ⟨A, c, rfl, h1, h2, h3⟩, h4⟩ := h
  refine ⟨A, c, by rw [List.length_map], by rw [List.length_map]; exact h1, h2, fun hl => ?_⟩
  rw [List.length_map] at hl
  obtain ⟨b, o, e, hb, hv, hc⟩ := h3 (by rw [bxs_length]; omega)
  refine ⟨b, o, fun k => (ps.getD k (⟨.empty, 0, 0, []⟩, .slice none 0 0)).2, e, hb, hv, fun k hk => ?_⟩
  rw [List.length_map] at hk
  obtain ⟨c1, c2, c3, c4⟩ := bxs_at hk
  have e2 : (ps.getD k (⟨.empty, 0, 0, []⟩, .slice none 0 0)) = ps[k] := by simp [hk]
  simp only [List.getElem_map, e2]
  exact ⟨hc _ _ c1, hc _ _ c2, hc _ _ c3, hc _ _ c4, h4 _ (List.getElem_mem hk)⟩

/-! When an index is right. -/
def posB (n : Int) : Bool := decide (1 ≤ n) && decide (n ≤ 4294967295)
def flagsB (n : Int) : Bool := decide (0 ≤ n) && decide (n ≤ 63)
def mailB (obj size flags : Int) : Bool := posB obj && decide (0 ≤ size) && decide (size ≤ 700) && flagsB flags
def charB (c : UInt8) : Bool :=
  (decide (97 ≤ c.toNat) && decide (c.toNat ≤ 122)) || (decide (65 ≤ c.toNat) && decide (c.toNat ≤ 90)) || (decide (48 ≤ c.toNat) && decide (c.toNat ≤ 57)) || c.toNat == 45 || c.toNat == 47 || c.toNat == 95
def nameB (s : ByteArray) : Bool := decide (1 ≤ s.size) && decide (s.size ≤ 16) && s.data.toList.all charB
/-- The mails from 'last' on rise, below next. -/
def mailsB (next last : Int) : List Ml → Bool
  | [] => true
  | m :: l => decide (last < m.uid) && decide (m.uid < next) && mailB m.obj m.size m.flags && mailsB next m.uid l
def boxB (b : Bx) : Bool := nameB b.name && posB b.val && posB b.next && decide (b.mails.length ≤ 30) && mailsB b.next 0 b.mails
end Go.Proofs.Ytjinnkbnllnllaa
