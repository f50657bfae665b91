/- Walks: alloc.Pool: Take, Give, Len. -/
import Derived.Test.YtbkipbkkdcikcaaHpPush
namespace Go.Proofs.Ytbkipbkkdcikcaa
open Go.RowKit

def bools (l : List Bool) : List Value := l.map Value.bool
theorem bools_length (l : List Bool) : (bools l).length = l.length := by simp [bools]
theorem bools_at {l : List Bool} {k : Nat} {b : Bool} (h : l[k]? = some b) : (bools l)[k]? = some (.bool b) := by simp [bools, h]
theorem bools_set (l : List Bool) (k : Nat) (b : Bool) : bools (l.set k b) = (bools l).set k (.bool b) := by simp [bools, List.map_set]

/-- A pool lies at g, none of its blocks one of V; tk: which numbers are taken. -/
def PoolV (w : World) (V : Nat → Prop) (g : Nat) (tk : List Bool) : Prop :=
  ∃ (tb : Nat) (fv : Value) (fr : List Nat), ¬ V g ∧ ¬ V tb ∧ (∀ k, fv.ownBlock = some k → ¬ V k) ∧ g ≠ tb ∧ tk.length ≤ 256 ∧ Own w g 41 [.slice (some ⟨tb, 0, none⟩) tk.length tk.length, fv] ∧ Own w tb 4 (bools tk) ∧
    w.ownsRow 0 3 1 fv fr.length (nats fr) ∧ fv.ownBlock ≠ some g ∧ fv.ownBlock ≠ some tb ∧ HeapOf tk fr
/-- A pool all of whose blocks lie from base on. -/
abbrev PoolAt (w : World) (base g : Nat) (tk : List Bool) : Prop := PoolV w (fun k => k < base) g tk
/-- The blocks of V are as they were. -/
abbrev Spared (V : Nat → Prop) (w w' : World) : Prop := Turn (fun k => ¬ V k) w w'

theorem HeapOf.len {tk : List Bool} {fr : List Nat} (h : HeapOf tk fr) : fr.length = (frees tk).length := h.2.length_eq
theorem frees_le (tk : List Bool) : (frees tk).length ≤ tk.length := by
  have := List.length_filter_le (fun i => tk[i]? == some false) (List.range tk.length)
  simpa [frees] using this

set_option maxHeartbeats 400000 in
theorem pLen_v (V : Nat → Prop) (g : Nat) (tk : List Bool) (w : World) (h : PoolV w V g tk) :
    Calls Try.prog 10 #[.pointer (some ⟨g, 0, none⟩)] w fun e w' => e = .returned (.int .i64 (frees tk).length) ∧ w = w' := by
  obtain ⟨tb, fv, fr, hv1, hv2, hv3, hne, hl, ho, hot, hr, hf1, hf2, hh⟩ := h
  obtain ⟨A, c, rfl⟩ := hp_formv hr
  obtain ⟨q1, q2, _, _⟩ := ho.two
  have h1 := frees_le tk
  have h2 := hh.len
  rw [h2] at q2
  generalize (frees tk).length = n at *
  clear hr hh ho hot h2 hf1 hf2 hv1 hv2 hv3
  go_enter Try.func10, Try.ntmps10
  go_wp2
  go_ret
  exact ⟨rfl, rfl⟩
theorem pLen_any (base g : Nat) (tk : List Bool) (w : World) (h : PoolAt w base g tk) :
    Calls Try.prog 10 #[.pointer (some ⟨g, 0, none⟩)] w fun e w' => e = .returned (.int .i64 (frees tk).length) ∧ w = w' := pLen_v _ g tk w h

/-- What Take tells, and what is taken behind it. -/
def takeR (tk : List Bool) : Nat × Bool := match frees tk with | [] => (0, false) | x :: _ => (x, true)
def takeT (tk : List Bool) : List Bool := match frees tk with | [] => tk | x :: _ => tk.set x true

def TakeV (w : World) (V : Nat → Prop) (g : Nat) (tk : List Bool) (e : Ending) (w' : World) : Prop :=
  e = .returned (.tuple #[.int .i64 ((takeR tk).1 : Nat), .bool (takeR tk).2]) ∧ PoolV w' V g (takeT tk) ∧ Spared V w w'

set_option maxHeartbeats 1000000 in
theorem pTake_v (V : Nat → Prop) (g : Nat) (tk : List Bool) (w : World) (h : PoolV w V g tk) :
    Calls Try.prog 11 #[.pointer (some ⟨g, 0, none⟩)] w (TakeV w V g tk) := by
  have HP := Lib.hid h
  obtain ⟨tb, fv, fr, hv1, hv2, hv3, hne, hl, ho, hot, hr, hf1, hf2, hh⟩ := h
  obtain ⟨A, c, rfl⟩ := hp_formv hr
  obtain ⟨q1, q2, _, _⟩ := ho.two
  have h1 := frees_le tk
  have h2 := hh.len
  rcases Nat.eq_zero_or_pos fr.length with h0 | h0
  · have hfe : frees tk = [] := List.eq_nil_of_length_eq_zero (by omega)
    rw [h0] at q2
    have HF := Lib.hid hfe
    clear hr hh ho hot h2 hf1 hf2 hfe h0
    go_enter Try.func11, Try.ntmps11
    go_wp2
    go_ret2
    refine ⟨?_, ?_, Turn.refl _ _⟩
    · simp only [takeR, HF.out]; rfl
    · simp only [takeT, HF.out]; exact HP.out
  · obtain ⟨r, c', e⟩ := hp_form hr h0
    cases e
    obtain ⟨l, hfl⟩ := heap_head hh h0
    have hx : at0 fr 0 ∈ frees tk := by rw [hfl]; simp
    have hxt := mem_frees.1 hx
    have hxl : at0 fr 0 < tk.length := (List.getElem?_eq_some_iff.1 hxt).1
    obtain ⟨n, hn⟩ : ∃ n, fr.length = n + 1 := ⟨fr.length - 1, by omega⟩
    have hgr : g ≠ r := fun e => hf1 (by rw [ownBlock_some, e])
    have htr : tb ≠ r := fun e => hf2 (by rw [ownBlock_some, e])
    have hvr : ¬ V r := hv3 r rfl
    have HR := Lib.hid hr
    have HH := Lib.hid hh
    have HO := Lib.hid ho
    have HOT := Lib.hid hot
    have HFL := Lib.hid hfl
    have HXT := Lib.hid hxt
    have hta := ta_int
    have hlz : (fr.length : Int) ≠ 0 := by omega
    have hlz' := beq_f hlz
    have h257 : fr.length ≤ 256 := by omega
    clear hr hh ho hot h2 hf1 hf2 hfl hx hxt
    go_enter Try.func11, Try.ntmps11
    go_wp2_with fail
    refine (hpop_any 0 g r c n fr _ _ HR.out HO.out hgr hn (by omega) HH.out.1).mono ?_
    rintro e w1 ⟨l', rfl, hr1, ho1, ht1, hpe1, hh1⟩
    have hot1 := HOT.out.turn ht1 (fun e => e.elim htr (fun e => hne e.symm))
    have HR1 := Lib.hid hr1
    have HO1 := Lib.hid ho1
    have HT1 := Lib.hid ht1
    have HOT1 := Lib.hid hot1
    obtain ⟨s1, s2, _, _⟩ := ho1.two
    have u1 : w1.cell? ⟨tb, at0 fr 0, none⟩ = some (.bool false) := by rw [hot1.cell?, bools_at HXT.out]
    have u2 := hot1.frozen (at0 fr 0)
    have i0 : (0 : Int) ≤ (at0 fr 0 : Int) := by omega
    have i1 : (at0 fr 0 : Int) < (tk.length : Int) := by omega
    clear hr1 ho1 ht1 hot1 q1 q2 hn
    go_wp2
    go_ret2
    have e1 : takeR tk = (at0 fr 0, true) := by simp only [takeR, HFL.out]
    have e2 : takeT tk = tk.set (at0 fr 0) true := by simp only [takeT, HFL.out]
    refine ⟨by rw [e1]; rfl, ?_, ?_⟩
    · rw [e2]
      refine ⟨tb, _, l', hv1, hv2, fun k e => ?_, hne, by simpa using hl, by rw [List.length_set]; exact HO1.out.far hne _, by rw [bools_set]; exact HOT1.out.set_ _ _, HR1.out.far (fun e => htr e.symm) _, fun e => hgr (by rw [ownBlock_some] at e; injection e with e; exact e.symm), fun e => htr (by rw [ownBlock_some] at e; injection e with e; exact e.symm), hh1, ?_⟩
      · rw [← ownBlock_eq e]; exact hvr
      rw [frees_take HFL.out]
      have hp : (at0 fr 0 :: l').Perm (at0 fr 0 :: l) := by
        have := (List.perm_append_comm (l₁ := [at0 fr 0]) (l₂ := l')).trans (hpe1.trans HH.out.2)
        rw [HFL.out] at this
        exact this
      exact hp.cons_inv
    · exact (HT1.out.mono (fun k hk => by rcases hk with rfl | rfl; exact hvr; exact hv1)).setCell hv2 _

def TakePost (w : World) (base g : Nat) (tk : List Bool) (e : Ending) (w' : World) : Prop :=
  e = .returned (.tuple #[.int .i64 ((takeR tk).1 : Nat), .bool (takeR tk).2]) ∧ PoolAt w' base g (takeT tk) ∧ Below base w w'
theorem pTake_any (base g : Nat) (tk : List Bool) (w : World) (h : PoolAt w base g tk) (hb : base ≤ w.heap.size) :
    Calls Try.prog 11 #[.pointer (some ⟨g, 0, none⟩)] w (TakePost w base g tk) :=
  (pTake_v _ g tk w h).mono fun _ _ ⟨h1, h2, h3⟩ => ⟨h1, h2, h3.below (fun _ hk => Nat.le_of_not_lt hk) hb⟩

/-- What Give tells, and what is taken behind it. -/
def giveR (tk : List Bool) (x : Int) : Bool := decide (0 ≤ x) && (tk[x.toNat]? == some true)
def giveT (tk : List Bool) (x : Int) : List Bool := if giveR tk x then tk.set x.toNat false else tk
def GiveV (w : World) (V : Nat → Prop) (g : Nat) (tk : List Bool) (x : Int) (e : Ending) (w' : World) : Prop :=
  e = .returned (.bool (giveR tk x)) ∧ PoolV w' V g (giveT tk x) ∧ Spared V w w'
def GivePost (w : World) (base g : Nat) (tk : List Bool) (x : Int) (e : Ending) (w' : World) : Prop :=
  e = .returned (.bool (giveR tk x)) ∧ PoolAt w' base g (giveT tk x) ∧ Below base w w'

end Go.Proofs.Ytbkipbkkdcikcaa
