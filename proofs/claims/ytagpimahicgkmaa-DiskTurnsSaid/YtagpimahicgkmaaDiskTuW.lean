/- Walk: mailsacklaw09.DiskTurns. -/
import Derived.Test.YtagpimahicgkmaaL9Awake
import Derived.Test.YtagpimahicgkmaaL9Plain
import Derived.Test.YtagpimahicgkmaaRfSmall
import Derived.Test.YtagpimahicgkmaaRf
import Derived.Test.YtagpimahicgkmaaRfEqual
import Derived.Test.YtagpimahicgkmaaRfPut
import Derived.Test.YtagpimahicgkmaaTail
import Derived.Deep.RegionHeld3
import Derived.Deep.DrawnRows
import Derived.Deep.DeepCutAuto
namespace Go.Proofs.Ytagpimahicgkmaa
open Go.RowKit
attribute [local go_sem ↓] Go.wp_at_zero Go.wp_at_succ

/-- All blocks from n on. -/
def Since (n : Nat) (w : World) : List Nat := (List.range w.heap.size).filter fun k => decide (n ≤ k)
theorem mem_since {n k : Nat} {w : World} : k ∈ Since n w ↔ k < w.heap.size ∧ n ≤ k := by simp [Since]
theorem since_old (n : Nat) (w : World) : Old (Since n w) w := fun _ h => (mem_since.1 h).1
theorem since_ext {n : Nat} {w w' : World} (U : List Nat) (h : w.heap.size ≤ n) : Ext (Since n w') w U := fun _ hk => .inr (Nat.le_trans h (mem_since.1 hk).2)

/-- All blocks from n on, but those from a to b. -/
def Exc (n a b : Nat) (w : World) : List Nat := (List.range w.heap.size).filter fun k => decide (n ≤ k) && (decide (k < a) || decide (b ≤ k))
theorem exc_ext (n : Nat) (W x x' : World) : Ext (Exc n W.heap.size x.heap.size x') x (Since n W) := fun k hk => by
  simp only [Exc, List.mem_filter, List.mem_range, Bool.and_eq_true, Bool.or_eq_true, decide_eq_true_eq] at hk
  rcases hk.2.2 with h | h
  · exact .inl (mem_since.2 ⟨h, hk.2.1⟩)
  · exact .inr h
theorem World.size_drew (w : World) : w.drew.heap.size = w.heap.size := rfl

def TurnRel (w0 : World) (F C : Dk) (s14 s15 : Value) (w' : World) : Prop :=
  ∃ g h A1 k1 A1' k1' A2 k2 A2' k2', s14 = .pointer (some ⟨g, 0, none⟩) ∧ s15 = .pointer (some ⟨h, 0, none⟩) ∧ Own w' g 25 [.slice A1 F.sec.length k1, .slice A1' F.cache.length k1'] ∧ Own w' h 25 [.slice A2 C.sec.length k2, .slice A2' C.cache.length k2'] ∧
    DkAt [] w' (.agg #[.slice A1 F.sec.length k1, .slice A1' F.cache.length k1']) F ∧ DkAt [] w' (.agg #[.slice A2 C.sec.length k2, .slice A2' C.cache.length k2']) C ∧ Kept w0 w'

theorem mem_exc {n a b k : Nat} {w : World} : k ∈ Exc n a b w ↔ k < w.heap.size ∧ n ≤ k ∧ (k < a ∨ b ≤ k) := by simp [Exc]

section
variable {w0 x2 : World} {FL CR : Dk} {VF VC : List Nat} {F0 F1 G0 G3 : Option Addr} {f0 f1 g0 g1 ga gb : Nat} {a0 a1 b0 b1 : Value}
theorem turn_both (hA : Own x2 ga 25 [a0, a1]) (hB : Own x2 gb 25 [b0, b1])
    (hF : DkAt VF x2 (.agg #[.slice F0 FL.sec.length f0, .slice F1 FL.cache.length f1]) FL) (hC : DkAt VC x2 (.agg #[.slice G0 CR.sec.length g0, .slice G3 CR.cache.length g1]) CR) (hk : Kept w0 x2)
    (hne : ga ≠ gb) (h1 : ga ∈ VF) (h2 : gb ∈ VF) (h3 : ga ∈ VC) (h4 : gb ∈ VC) (h5 : w0.heap.size ≤ ga) (h6 : w0.heap.size ≤ gb) :
    TurnRel w0 FL CR (.pointer (some ⟨ga, 0, none⟩)) (.pointer (some ⟨gb, 0, none⟩))
      ((((x2.setCell ⟨ga, 0, none⟩ (.slice F0 FL.sec.length f0)).setCell ⟨ga, 1, none⟩ (.slice F1 FL.cache.length f1)).setCell ⟨gb, 0, none⟩ (.slice G0 CR.sec.length g0)).setCell ⟨gb, 1, none⟩ (.slice G3 CR.cache.length g1)) :=
  ⟨ga, gb, F0, f0, F1, f1, G0, g0, G3, g1, rfl, rfl, ((hA.put2 _ _).far hne _).far hne _, ((hB.far hne.symm _).far hne.symm _).put2 _ _,
    ((((hF.put h1 _).put h1 _).put h2 _).put h2 _).weak (by simp), ((((hC.put h3 _).put h3 _).put h4 _).put h4 _).weak (by simp), (((hk.setCell h5 _).setCell h5 _).setCell h6 _).setCell h6 _⟩
theorem turn_a (hA : Own x2 ga 25 [a0, a1])
    (hF : DkAt VF x2 (.agg #[.slice F0 FL.sec.length f0, .slice F1 FL.cache.length f1]) FL) (hC : DkAt VC x2 (.agg #[.slice G0 CR.sec.length g0, .slice G3 CR.cache.length g1]) CR) (hk : Kept w0 x2)
    (h1 : ga ∈ VF) (h3 : ga ∈ VC) (h5 : w0.heap.size ≤ ga) :
    TurnRel w0 FL CR (.pointer (some ⟨ga, 0, none⟩)) (.pointer (some ⟨x2.heap.size, 0, none⟩))
      (((x2.setCell ⟨ga, 0, none⟩ (.slice F0 FL.sec.length f0)).setCell ⟨ga, 1, none⟩ (.slice F1 FL.cache.length f1)).alloc (.cells #[.slice G0 CR.sec.length g0, .slice G3 CR.cache.length g1] 25)) :=
  ⟨ga, x2.heap.size, F0, f0, F1, f1, G0, g0, G3, g1, rfl, rfl, (hA.put2 _ _).alloc _, Own.newAt _ _ _ [_, _] (by simp [World.setCell]),
    (((hF.put h1 _).put h1 _).go ((Kept.refl _).alloc _) (Ext.refl _ _)).weak (by simp), (((hC.put h3 _).put h3 _).go ((Kept.refl _).alloc _) (Ext.refl _ _)).weak (by simp), ((hk.setCell h5 _).setCell h5 _).alloc _⟩
theorem turn_b (hB : Own x2 gb 25 [b0, b1])
    (hF : DkAt VF x2 (.agg #[.slice F0 FL.sec.length f0, .slice F1 FL.cache.length f1]) FL) (hC : DkAt VC x2 (.agg #[.slice G0 CR.sec.length g0, .slice G3 CR.cache.length g1]) CR) (hk : Kept w0 x2)
    (h1 : gb ∈ VF) (h3 : gb ∈ VC) (h5 : w0.heap.size ≤ gb) :
    TurnRel w0 FL CR (.pointer (some ⟨x2.heap.size, 0, none⟩)) (.pointer (some ⟨gb, 0, none⟩))
      (((x2.setCell ⟨gb, 0, none⟩ (.slice G0 CR.sec.length g0)).setCell ⟨gb, 1, none⟩ (.slice G3 CR.cache.length g1)).alloc (.cells #[.slice F0 FL.sec.length f0, .slice F1 FL.cache.length f1] 25)) :=
  ⟨x2.heap.size, gb, F0, f0, F1, f1, G0, g0, G3, g1, rfl, rfl, Own.newAt _ _ _ [_, _] (by simp [World.setCell]), (hB.put2 _ _).alloc _,
    (((hF.put h1 _).put h1 _).go ((Kept.refl _).alloc _) (Ext.refl _ _)).weak (by simp), (((hC.put h3 _).put h3 _).go ((Kept.refl _).alloc _) (Ext.refl _ _)).weak (by simp), ((hk.setCell h5 _).setCell h5 _).alloc _⟩
theorem turn_post (hF : DkAt VF x2 (.agg #[.slice F0 FL.sec.length f0, .slice F1 FL.cache.length f1]) FL) (hC : DkAt VC x2 (.agg #[.slice G0 CR.sec.length g0, .slice G3 CR.cache.length g1]) CR) (hk : Kept w0 x2) :
    TurnRel w0 FL CR (.pointer (some ⟨x2.heap.size, 0, none⟩)) (.pointer (some ⟨x2.heap.size + 1, 0, none⟩))
      ((x2.alloc (.cells #[.slice F0 FL.sec.length f0, .slice F1 FL.cache.length f1] 25)).alloc (.cells #[.slice G0 CR.sec.length g0, .slice G3 CR.cache.length g1] 25)) :=
  ⟨x2.heap.size, x2.heap.size + 1, F0, f0, F1, f1, G0, g0, G3, g1, rfl, rfl, (Own.new _ _ [_, _]).alloc _, Own.new1 _ _ _ [_, _],
    (hF.go (((Kept.refl _).alloc _).alloc _) (Ext.refl _ _)).weak (by simp), (hC.go (((Kept.refl _).alloc _).alloc _) (Ext.refl _ _)).weak (by simp), (hk.alloc _).alloc _⟩
theorem turn_post' (hF : DkAt VF x2 (.agg #[.slice F0 FL.sec.length f0, .slice F1 FL.cache.length f1]) FL) (hC : DkAt VC x2 (.agg #[.slice G0 CR.sec.length g0, .slice G3 CR.cache.length g1]) CR) (hk : Kept w0 x2) :
    TurnRel w0 FL CR (.pointer (some ⟨x2.heap.size + 1, 0, none⟩)) (.pointer (some ⟨x2.heap.size, 0, none⟩))
      ((x2.alloc (.cells #[.slice G0 CR.sec.length g0, .slice G3 CR.cache.length g1] 25)).alloc (.cells #[.slice F0 FL.sec.length f0, .slice F1 FL.cache.length f1] 25)) :=
  ⟨x2.heap.size + 1, x2.heap.size, F0, f0, F1, f1, G0, g0, G3, g1, rfl, rfl, Own.new1 _ _ _ [_, _], (Own.new _ _ [_, _]).alloc _,
    (hF.go (((Kept.refl _).alloc _).alloc _) (Ext.refl _ _)).weak (by simp), (hC.go (((Kept.refl _).alloc _).alloc _) (Ext.refl _ _)).weak (by simp), (hk.alloc _).alloc _⟩
end

set_option maxRecDepth 100000 in
set_option maxHeartbeats 16000000 in
theorem diskTurns_main (d : Dk) (x : Wr) (keep : List Int) (at_ : Int) (v u : Value) (w : World) (h : DkAt [] w v d) (hu : IntsAt [] w u keep) (hreach : d.cache.length * 24 ≤ 140737488351232) (hat : at_ ≤ 9223372036854775807)
    (hsm : smallB d = true) (hx : x.data.size ≤ 100) (hk2 : keep.length ≤ 200) :
    Calls Try.prog 5 #[v, .agg #[.int .i64 x.at_, .string x.data], .int .i64 at_, u] w fun e w' => e = .returned (.bool true) ∧ Kept w w' := by
  have H := Lib.hid h
  have HU := Lib.hid hu
  obtain ⟨s, c, rfl, hs, hc⟩ := h
  obtain ⟨B, bc, rfl, bl, bm, _⟩ := hu
  unfold maxLen at bm
  clear hs hc
  obtain ⟨A0, k0, A1, k1, rfl, rfl⟩ := H.out.form
  obtain ⟨hs6, hs2⟩ := small_parts hsm
  go_enter Try.func5, Try.ntmps5
  go_wp2_with fail
  refine (ref_any [] d _ _ (H.out.go (((Kept.refl w).alloc _).alloc _) (Ext.refl _ _)) (fun _ h => by cases h) (by omega)).mono ?_
  rintro e w1 ⟨s1, c1, rfl, hd1, hk1⟩
  obtain ⟨R0, r0, R1, r1, rfl, rfl⟩ := hd1.form
  have HO1 := Lib.hid ((((Own.new w _ [Value.slice A0 d.sec.length k0, Value.slice A1 d.cache.length k1]).alloc _).kept hk1).alloc (.cells #[Value.slice R0 d.sec.length r0, Value.slice R1 d.cache.length r1] 37))
  have HO2 := Lib.hid (((Own.new1 w _ _ [Value.int .i64 x.at_, .string x.data]).kept hk1).alloc (.cells #[Value.slice R0 d.sec.length r0, Value.slice R1 d.cache.length r1] 37))
  have HO3 := Lib.hid (Own.new w1 37 [Value.slice R0 d.sec.length r0, Value.slice R1 d.cache.length r1])
  have hkx : Kept w (w1.alloc (.cells #[Value.slice R0 d.sec.length r0, Value.slice R1 d.cache.length r1] 37)) := ((((Kept.refl w).alloc _).alloc _).trans hk1).alloc _
  have HX := Lib.hid (hd1.go ((Kept.refl w1).alloc (.cells #[Value.slice R0 d.sec.length r0, Value.slice R1 d.cache.length r1] 37)) (Ext.refl _ _))
  have hz1 : w.heap.size < w1.heap.size := Nat.lt_of_lt_of_le (by simp; omega) hk1.size
  clear hd1 hk1
  go_wp2_with fail
  refine (small_any [] d _ _ HX.out).mono ?_
  rw [hsm]
  rintro e w2 ⟨rfl, hk2'⟩
  have HO1' := Lib.hid (HO1.out.kept hk2')
  have HO2' := Lib.hid (HO2.out.kept hk2')
  have HO3' := Lib.hid (HO3.out.kept hk2')
  have HX' := Lib.hid (HX.out.go hk2' (Ext.refl _ _))
  have hkw2 := hkx.trans hk2'
  clear HO1 HO2 HO3 HX hk2' hkx
  obtain ⟨q1, q2, _, _⟩ := HO1'.out.two
  obtain ⟨q3, q4, _, _⟩ := HO2'.out.two
  go_wp2_with fail
  refine (read_any [] d at_ _ _ (H.out.go hkw2 (Ext.refl _ _)) (by omega)).mono ?_
  rintro e w3 ⟨rfl, hk3⟩
  have HO1 := Lib.hid (HO1'.out.kept hk3)
  have HO2 := Lib.hid (HO2'.out.kept hk3)
  have HO3 := Lib.hid (HO3'.out.kept hk3)
  have HX := Lib.hid (HX'.out.go hk3 (Ext.refl _ _))
  have hkw3 := hkw2.trans hk3
  clear HO1' HO2' HO3' HX' hk3 hkw2 q1 q2 q3 q4
  obtain ⟨q1, q2, _, _⟩ := HO1.out.two
  obtain ⟨q3, q4, _, _⟩ := HO2.out.two
  go_wp2_with fail
  refine (put_any [] d x _ _ (H.out.go hkw3 (Ext.refl _ _)) (fun _ h => by cases h) (by omega)).mono ?_
  rintro e w4 ⟨s4, c4, rfl, hd4, hk4⟩
  obtain ⟨P0, p0, P1, p1, rfl, rfl⟩ := hd4.form
  generalize hpd : (putR d x).1 = PD at *
  generalize hpe : (putR d x).2 = PE at *
  have HPD := Lib.hid hpd
  have HPE := Lib.hid hpe
  clear hpd hpe
  have HO1' := Lib.hid (HO1.out.kept hk4)
  have HO2' := Lib.hid (HO2.out.kept hk4)
  have HO3' := Lib.hid (HO3.out.kept hk4)
  have HX' := Lib.hid (HX.out.go hk4 (Ext.refl _ _))
  have hkw4 := hkw3.trans hk4
  have HP4 := Lib.hid hd4
  clear HO1 HO2 HO3 HX hk4 hkw3 q1 q2 q3 q4 hd4
  go_upto_region 6 with fail
  obtain ⟨w0, hw0⟩ : ∃ w0, w4.alloc (Obj.cells #[Value.slice P0 PD.sec.length p0, Value.slice P1 PD.cache.length p1] 25) = w0 := ⟨_, rfl⟩
  have HO1 := Lib.hid (HO1'.out.alloc (Obj.cells #[Value.slice P0 PD.sec.length p0, Value.slice P1 PD.cache.length p1] 25))
  have HO2 := Lib.hid (HO2'.out.alloc (Obj.cells #[Value.slice P0 PD.sec.length p0, Value.slice P1 PD.cache.length p1] 25))
  have HO3 := Lib.hid (HO3'.out.alloc (Obj.cells #[Value.slice P0 PD.sec.length p0, Value.slice P1 PD.cache.length p1] 25))
  have HO4 := Lib.hid (Own.new w4 25 [Value.slice P0 PD.sec.length p0, Value.slice P1 PD.cache.length p1])
  have HX := Lib.hid (HX'.out.go ((Kept.refl w4).alloc (Obj.cells #[Value.slice P0 PD.sec.length p0, Value.slice P1 PD.cache.length p1] 25)) (Ext.refl _ _))
  have HP := Lib.hid (HP4.out.go ((Kept.refl w4).alloc (Obj.cells #[Value.slice P0 PD.sec.length p0, Value.slice P1 PD.cache.length p1] 25)) (Ext.refl _ _))
  have hkw0 := hkw4.alloc (Obj.cells #[Value.slice P0 PD.sec.length p0, Value.slice P1 PD.cache.length p1] 25)
  rw [hw0] at HO1 HO2 HO3 HO4 HX HP hkw0
  rw [hw0]
  clear HO1' HO2' HO3' HX' HP4 hkw4 hw0
  obtain ⟨q1, q2, _, _⟩ := HO1.out.two
  have hzd : w.heap.size < w0.heap.size := HO1.out.lt
  have C1 : ∀ W', Kept w0 W' → W'.cell? ⟨w.heap.size, 0, none⟩ = some (Value.slice A0 d.sec.length k0) := fun W' hk => (hk.cell (p := ⟨w.heap.size, 0, none⟩) hzd).trans q1
  have C2 : ∀ W', Kept w0 W' → W'.cell? ⟨w.heap.size, 1, none⟩ = some (Value.slice A1 d.cache.length k1) := fun W' hk => (hk.cell (p := ⟨w.heap.size, 1, none⟩) hzd).trans q2
  have PDD : Hid (∀ W', Kept w0 W' → DkAt (Since w0.heap.size W') W' (.agg #[Value.slice A0 d.sec.length k0, Value.slice A1 d.cache.length k1]) d) := fun W' hk => H.out.go (hkw0.trans hk) (since_ext _ (Nat.le_trans hkw0.size (Nat.le_refl _)))
  have PKK : Hid (∀ W', Kept w0 W' → IntsAt [] W' (.slice B keep.length bc) keep) := fun W' hk => HU.out.go (hkw0.trans hk) (Ext.refl _ _)
  clear q1 q2
  obtain ⟨FL, HFL⟩ : ∃ FL, Hid (flushD d = FL) := ⟨_, rfl⟩
  obtain ⟨CR, HCR⟩ : ∃ CR, Hid (crashD d keep = CR) := ⟨_, rfl⟩
  go_cut [14, 15] (fun s14 s15 wx => TurnRel w0 FL CR s14 s15 wx)
  case first =>
    go_region_held3 (fun w' => Kept w0 w')
      ((repeat (first | assumption | exact Kept.refl _ | refine Kept.drew ?_ | refine Kept.alloc ?_ _ | refine Kept.setCell ?_ (by first | omega | (simp only []; omega)) _)))
      (first
        | (go_at_call 15; refine (flush_any (Since w0.heap.size _) d _ _ (PDD.out _ (by repeat (first | exact Kept.refl _ | assumption | apply Kept.drew | apply Kept.alloc))) (since_old _ _)).mono ?_; rw [HFL.out]; rintro e x1 ⟨y1, z1, rfl, e1, e2⟩; obtain ⟨F0, f0, F1, f1, rfl, rfl⟩ := e1.form; have HF1 := Lib.hid e1; have G1 := Lib.hid e2; have K1 : Kept w0 x1 := Kept.trans (by repeat (first | exact Kept.refl _ | assumption | apply Kept.drew | apply Kept.alloc)) e2; have hz1 := e2.size; (try simp only [World.size_alloc, World.size_drew] at hz1); clear e1 e2; (first | (have B0 := Lib.hid ((Own.drew ((Own.new w0 25 [Value.slice none 0 0, Value.slice none 0 0]).alloc (.cells #[Value.slice none 0 0, Value.slice none 0 0] 25))).kept G1.out); have B1 := Lib.hid ((Own.drew (Own.new1 w0 _ 25 [Value.slice none 0 0, Value.slice none 0 0])).kept G1.out)) | (have B0 := Lib.hid ((Own.drew (Own.new w0 25 [Value.slice none 0 0, Value.slice none 0 0])).kept G1.out)) | (have B0 := Lib.hid (((Own.new w0 25 [Value.slice none 0 0, Value.slice none 0 0]).alloc (.cells #[Value.slice none 0 0, Value.slice none 0 0] 25)).kept G1.out); have B1 := Lib.hid ((Own.new1 w0 _ 25 [Value.slice none 0 0, Value.slice none 0 0]).kept G1.out)) | (have B0 := Lib.hid ((Own.new w0 25 [Value.slice none 0 0, Value.slice none 0 0]).kept G1.out)) | skip))
        | (go_at_call 14; refine (crash_any (Since w0.heap.size _) d keep _ _ _ (PDD.out _ (by repeat (first | exact Kept.refl _ | assumption | apply Kept.drew | apply Kept.alloc))) (PKK.out _ (by repeat (first | exact Kept.refl _ | assumption | apply Kept.drew | apply Kept.alloc))) (since_old _ _) (by omega)).mono ?_; rw [HCR.out]; rintro e x2 ⟨y2, z2, rfl, e1, e2⟩; obtain ⟨G0, g0, G3, g1, rfl, rfl⟩ := e1.form; have HC2 := Lib.hid e1; have G2 := Lib.hid e2; have K2 : Kept w0 x2 := Kept.trans (by repeat (first | exact Kept.refl _ | assumption | apply Kept.drew | apply Kept.alloc)) e2; have HF2 := Lib.hid (HF1.out.go (U := Exc w0.heap.size _ x1.heap.size x2) (Kept.trans (by repeat (first | exact Kept.refl _ | assumption | apply Kept.drew | apply Kept.alloc)) e2) (exc_ext _ _ _ _)); have hz2 := e2.size; (try simp only [World.size_alloc, World.size_drew] at hz2); clear e1 e2; (first | (have E0 := Lib.hid (B0.out.kept G2.out); have E1 := Lib.hid (B1.out.kept G2.out); obtain ⟨e0a, e0b, e0c, e0d⟩ := E0.out.two; have e0s := E0.out.lt; obtain ⟨e1a, e1b, e1c, e1d⟩ := E1.out.two; have e1s := E1.out.lt; clear B0 B1) | (have E0 := Lib.hid ((B0.out.alloc (.cells #[Value.slice none 0 0, Value.slice none 0 0] 25)).kept G2.out); have M0 := Lib.hid ((Own.new x1 25 [Value.slice none 0 0, Value.slice none 0 0]).kept G2.out); obtain ⟨e0a, e0b, e0c, e0d⟩ := E0.out.two; have e0s := E0.out.lt; obtain ⟨m0a, m0b, m0c, m0d⟩ := M0.out.two; have m0s := M0.out.lt; clear B0) | (have E0 := Lib.hid (B0.out.kept G2.out); obtain ⟨e0a, e0b, e0c, e0d⟩ := E0.out.two; have e0s := E0.out.lt; clear B0) | (have M0 := Lib.hid (((Own.new x1 25 [Value.slice none 0 0, Value.slice none 0 0]).alloc (.cells #[Value.slice none 0 0, Value.slice none 0 0] 25)).kept G2.out); have M1 := Lib.hid ((Own.new1 x1 _ 25 [Value.slice none 0 0, Value.slice none 0 0]).kept G2.out); obtain ⟨m0a, m0b, m0c, m0d⟩ := M0.out.two; have m0s := M0.out.lt; obtain ⟨m1a, m1b, m1c, m1d⟩ := M1.out.two; have m1s := M1.out.lt) | (have M0 := Lib.hid ((Own.new x1 25 [Value.slice none 0 0, Value.slice none 0 0]).kept G2.out); obtain ⟨m0a, m0b, m0c, m0d⟩ := M0.out.two; have m0s := M0.out.lt) | skip)))
    all_goals (go_wp2_with fail; go_meet)
    all_goals
      first
        | (with_reducible refine turn_post HF2.out HC2.out K2)
        | (with_reducible refine turn_post' HF2.out HC2.out K2)
        | (with_reducible refine turn_a M0.out HF2.out HC2.out K2 ?_ ?_ ?_ <;> (first | (rw [mem_since]; (try simp only [World.size_alloc, World.size_drew]); omega) | (rw [mem_exc]; (try simp only [World.size_alloc, World.size_drew]); omega) | omega))
        | (with_reducible refine turn_b M0.out HF2.out HC2.out K2 ?_ ?_ ?_ <;> (first | (rw [mem_since]; (try simp only [World.size_alloc, World.size_drew]); omega) | (rw [mem_exc]; (try simp only [World.size_alloc, World.size_drew]); omega) | omega))
        | (with_reducible refine turn_a E0.out HF2.out HC2.out K2 ?_ ?_ ?_ <;> (first | (rw [mem_since]; (try simp only [World.size_alloc, World.size_drew]); omega) | (rw [mem_exc]; (try simp only [World.size_alloc, World.size_drew]); omega) | omega))
        | (with_reducible refine turn_b E0.out HF2.out HC2.out K2 ?_ ?_ ?_ <;> (first | (rw [mem_since]; (try simp only [World.size_alloc, World.size_drew]); omega) | (rw [mem_exc]; (try simp only [World.size_alloc, World.size_drew]); omega) | omega))
        | (with_reducible refine turn_both M0.out M1.out HF2.out HC2.out K2 ?_ ?_ ?_ ?_ ?_ ?_ ?_ <;> (first | (rw [mem_since]; (try simp only [World.size_alloc, World.size_drew]); omega) | (rw [mem_exc]; (try simp only [World.size_alloc, World.size_drew]); omega) | omega))
        | (with_reducible refine turn_both M1.out M0.out HF2.out HC2.out K2 ?_ ?_ ?_ ?_ ?_ ?_ ?_ <;> (first | (rw [mem_since]; (try simp only [World.size_alloc, World.size_drew]); omega) | (rw [mem_exc]; (try simp only [World.size_alloc, World.size_drew]); omega) | omega))
        | (with_reducible refine turn_both E0.out E1.out HF2.out HC2.out K2 ?_ ?_ ?_ ?_ ?_ ?_ ?_ <;> (first | (rw [mem_since]; (try simp only [World.size_alloc, World.size_drew]); omega) | (rw [mem_exc]; (try simp only [World.size_alloc, World.size_drew]); omega) | omega))
        | (with_reducible refine turn_both E1.out E0.out HF2.out HC2.out K2 ?_ ?_ ?_ ?_ ?_ ?_ ?_ <;> (first | (rw [mem_since]; (try simp only [World.size_alloc, World.size_drew]); omega) | (rw [mem_exc]; (try simp only [World.size_alloc, World.size_drew]); omega) | omega))
        | (with_reducible refine turn_both E0.out M0.out HF2.out HC2.out K2 ?_ ?_ ?_ ?_ ?_ ?_ ?_ <;> (first | (rw [mem_since]; (try simp only [World.size_alloc, World.size_drew]); omega) | (rw [mem_exc]; (try simp only [World.size_alloc, World.size_drew]); omega) | omega))
        | (with_reducible refine turn_both M0.out E0.out HF2.out HC2.out K2 ?_ ?_ ?_ ?_ ?_ ?_ ?_ <;> (first | (rw [mem_since]; (try simp only [World.size_alloc, World.size_drew]); omega) | (rw [mem_exc]; (try simp only [World.size_alloc, World.size_drew]); omega) | omega))
  case rest =>
    obtain ⟨g, h, F0, f0, F1, f1, G0, g0, G3, g1, rfl, rfl, OF, OC, DF, DC, KC⟩ := hcut
    have HO1' := Lib.hid (HO1.out.kept KC)
    have HO2' := Lib.hid (HO2.out.kept KC)
    have HO3' := Lib.hid (HO3.out.kept KC)
    have HO4' := Lib.hid (HO4.out.kept KC)
    have HX' := Lib.hid (HX.out.go KC (Ext.refl _ _))
    have HP' := Lib.hid (HP.out.go KC (Ext.refl _ _))
    have HOF := Lib.hid OF
    have HOC := Lib.hid OC
    have HDF := Lib.hid DF
    have HDC := Lib.hid DC
    have q1 := C1 _ KC
    have q2 := C2 _ KC
    have hkwc := hkw0.trans KC
    clear HO1 HO2 HO3 HO4 HX HP OF OC DF DC C1 C2 PDD PKK hzd hkw0 KC
    obtain ⟨q3, q4, _, _⟩ := HO3'.out.two
    go_wp2_with fail
    refine (rright_any [] d _ _ HX'.out).mono ?_
    rintro e w5 ⟨rfl, hk5⟩
    have HO2 := Lib.hid (HO2'.out.kept hk5)
    have HO3 := Lib.hid (HO3'.out.kept hk5)
    have HO4 := Lib.hid (HO4'.out.kept hk5)
    have HX := Lib.hid (HX'.out.go hk5 (Ext.refl _ _))
    have HP := Lib.hid (HP'.out.go hk5 (Ext.refl _ _))
    have HOF' := Lib.hid (HOF.out.kept hk5)
    have HOC' := Lib.hid (HOC.out.kept hk5)
    have HDF' := Lib.hid (HDF.out.go hk5 (Ext.refl _ _))
    have HDC' := Lib.hid (HDC.out.go hk5 (Ext.refl _ _))
    have hkw5 := hkwc.trans hk5
    have HO1 := Lib.hid (HO1'.out.kept hk5)
    clear HO1' HO2' HO3' HO4' HX' HP' HOF HOC HDF HDC hkwc hk5 q1 q2 q3 q4
    obtain ⟨q1, q2, _, _⟩ := HO1.out.two
    go_wp2_with fail
    refine (right_any [] d _ _ (H.out.go hkw5 (Ext.refl _ _))).mono ?_
    rintro e w6 ⟨rfl, hk6⟩
    have HO1' := Lib.hid (HO1.out.kept hk6)
    have HO2' := Lib.hid (HO2.out.kept hk6)
    have HO3' := Lib.hid (HO3.out.kept hk6)
    have HO4' := Lib.hid (HO4.out.kept hk6)
    have HX' := Lib.hid (HX.out.go hk6 (Ext.refl _ _))
    have HP' := Lib.hid (HP.out.go hk6 (Ext.refl _ _))
    have HOF := Lib.hid (HOF'.out.kept hk6)
    have HOC := Lib.hid (HOC'.out.kept hk6)
    have HDF := Lib.hid (HDF'.out.go hk6 (Ext.refl _ _))
    have HDC := Lib.hid (HDC'.out.go hk6 (Ext.refl _ _))
    have hkw6 := hkw5.trans hk6
    clear HO1 HO2 HO3 HO4 HX HP HOF' HOC' HDF' HDC' hkw5 hk6 q1 q2
    obtain ⟨q1, q2, _, _⟩ := HO2'.out.two
    obtain ⟨q3, q4, _, _⟩ := HO3'.out.two
    obtain ⟨r, HR⟩ : ∃ r, Hid (rightB d = r) := ⟨_, rfl⟩
    rw [HR.out]
    have hrr : (r != r) = false := by cases r <;> rfl
    go_wp2_with fail
    refine (rput_any [] d x _ _ HX'.out (fun _ h => by cases h) (by omega)).mono ?_
    rintro e w7 ⟨s7, c7, rfl, hd7, hk7⟩
    obtain ⟨Y0, y0, Y1, y1, rfl, rfl⟩ := hd7.form
    have HO1 := Lib.hid (HO1'.out.kept hk7)
    have HO3 := Lib.hid (HO3'.out.kept hk7)
    have HO4 := Lib.hid (HO4'.out.kept hk7)
    have HX := Lib.hid (HX'.out.go hk7 (Ext.refl _ _))
    have HP := Lib.hid (HP'.out.go hk7 (Ext.refl _ _))
    have HOF' := Lib.hid (HOF.out.kept hk7)
    have HOC' := Lib.hid (HOC.out.kept hk7)
    have HDF' := Lib.hid (HDF.out.go hk7 (Ext.refl _ _))
    have HDC' := Lib.hid (HDC.out.go hk7 (Ext.refl _ _))
    have hkw7 := hkw6.trans hk7
    have HY := Lib.hid hd7
    have HEQ : Hid ((rputR d x).1 = PD) := by show _ = _; rw [← HPD.out]; unfold rputR putR; split <;> rfl
    rw [HEQ.out] at HY ⊢
    clear HO1' HO2' HO3' HO4' HX' HP' HOF HOC HDF HDC hkw6 hk7 q1 q2 q3 q4 hd7
    obtain ⟨ok, HOK, hb⟩ : ∃ ok : Bool, Hid ((rputR d x).2 = ok) ∧ (PE = 0 ∧ ok = true ∨ PE = 1 ∧ ok = false) := by
      refine ⟨_, rfl, ?_⟩
      rw [← HPE.out]; unfold rputR putR; split <;> simp
    rw [HOK.out]
    clear HPE
    go_upto_region 11 with fail
    obtain ⟨w8, hw8⟩ : ∃ w8, w7.alloc (.cells #[Value.slice Y0 PD.sec.length y0, Value.slice Y1 PD.cache.length y1] 37) = w8 := ⟨_, rfl⟩
    have HY1 := Lib.hid (HY.out.go ((Kept.refl w7).alloc (.cells #[Value.slice Y0 PD.sec.length y0, Value.slice Y1 PD.cache.length y1] 37)) (Ext.refl _ _))
    have HOY := Lib.hid (Own.new w7 37 [Value.slice Y0 PD.sec.length y0, Value.slice Y1 PD.cache.length y1])
    have hK8 : Kept w7 w8 := by rw [← hw8]; exact (Kept.refl w7).alloc _
    rw [hw8] at HY1 HOY
    rw [hw8]
    clear hw8
    have hkw8 := hkw7.trans hK8
    have B1 := Lib.hid (HO1.out.kept hK8)
    have B3 := Lib.hid (HO3.out.kept hK8)
    have B4 := Lib.hid (HO4.out.kept hK8)
    have BF := Lib.hid (HOF'.out.kept hK8)
    have BC := Lib.hid (HOC'.out.kept hK8)
    have DX := Lib.hid (HX.out.go hK8 (Ext.refl _ _))
    have DP := Lib.hid (HP.out.go hK8 (Ext.refl _ _))
    have DF := Lib.hid (HDF'.out.go hK8 (Ext.refl _ _))
    have DC := Lib.hid (HDC'.out.go hK8 (Ext.refl _ _))
    clear HO1 HO3 HO4 HOF' HOC' HX HP HDF' HDC' HY hkw7 hK8
    have C1 : ∀ W', Kept w8 W' → W'.cell? ⟨w.heap.size, 0, none⟩ = some (Value.slice A0 d.sec.length k0) := fun W' hk => (B1.out.kept hk).two.1
    have C2 : ∀ W', Kept w8 W' → W'.cell? ⟨w4.heap.size, 0, none⟩ = some (Value.slice P0 PD.sec.length p0) := fun W' hk => (B4.out.kept hk).two.1
    have C3 : ∀ W', Kept w8 W' → W'.cell? ⟨w4.heap.size, 1, none⟩ = some (Value.slice P1 PD.cache.length p1) := fun W' hk => (B4.out.kept hk).two.2.1
    have C4 : ∀ W', Kept w8 W' → W'.cell? ⟨w7.heap.size, 0, none⟩ = some (Value.slice Y0 PD.sec.length y0) := fun W' hk => (HOY.out.kept hk).two.1
    have C5 : ∀ W', Kept w8 W' → W'.cell? ⟨w7.heap.size, 1, none⟩ = some (Value.slice Y1 PD.cache.length y1) := fun W' hk => (HOY.out.kept hk).two.2.1
    have h9 : PD.cache.length ≤ d.cache.length + 1 := by rw [← HPD.out]; unfold putR; split <;> simp
    have PDL := Lib.hid (show PD.cache.length * 24 ≤ 140737488355328 by omega)
    clear h9
    go_cut [83] (fun s83 wx => s83 = .bool false ∧ Kept w8 wx)
    case first =>
      rcases hb with ⟨rfl, rfl⟩ | ⟨rfl, rfl⟩
      · skip
        refine wp_region_held_drew (S := fun w' => Kept w8 w') (by kernel_rfl) ((Kept.refl _).drew) (fun hHeld => ?_)
        refine wpAnyH_take (i := 0) (oi := { dst := some 65, op := Op.move (Operand.tmp 13), type := 26, pos := "law.go:46", after := #[], guard := none }) (v := ?_) rfl (by kernel_rfl) (by kernel_rfl) (by kernel_rfl) (fun _ _ _ h => h) (Or.inl ⟨by rfl, ?_⟩) (by assumption) ?_
        rotate_left
        · (intro wz hSw; (try dsimp only at hSw); go_simp; (try with_reducible rfl))
        (try simp only [Act.put, List.setIfInBounds_toArray, List.set_cons_zero, List.set_cons_succ])
        refine wpAnyH_take (i := 1) (oi := { dst := some 66, op := Op.binOp BinOp.eql 26 (Operand.tmp 65) (Operand.const (Value.int IntKind.i64 0)) 26, type := 4, pos := "law.go:46", after := #[{ on := 0, ground := Ground.data }], guard := none }) (v := ?_) rfl (by kernel_rfl) (by kernel_rfl) (by kernel_rfl) (fun _ _ _ h => h) (Or.inl ⟨by rfl, ?_⟩) (by assumption) ?_
        rotate_left
        · (intro wz hSw; (try dsimp only at hSw); go_simp; (try with_reducible rfl))
        (try simp only [Act.put, List.setIfInBounds_toArray, List.set_cons_zero, List.set_cons_succ])
        refine wpAnyH_take (i := 2) (oi := { dst := some 67, op := Op.move (Operand.tmp 18), type := 4, pos := "law.go:46", after := #[], guard := none }) (v := ?_) rfl (by kernel_rfl) (by kernel_rfl) (by kernel_rfl) (fun _ _ _ h => h) (Or.inl ⟨by rfl, ?_⟩) (by assumption) ?_
        rotate_left
        · (intro wz hSw; (try dsimp only at hSw); go_simp; (try with_reducible rfl))
        (try simp only [Act.put, List.setIfInBounds_toArray, List.set_cons_zero, List.set_cons_succ])
        refine wpAnyH_take (i := 3) (oi := { dst := some 68, op := Op.binOp BinOp.neq 4 (Operand.tmp 66) (Operand.tmp 67) 4, type := 4, pos := "law.go:46", after := #[{ on := 1, ground := Ground.data }, { on := 2, ground := Ground.data }], guard := none }) (v := ?_) rfl (by kernel_rfl) (by kernel_rfl) (by kernel_rfl) (fun _ _ _ h => h) (Or.inl ⟨by rfl, ?_⟩) (by assumption) ?_
        rotate_left
        · (intro wz hSw; (try dsimp only at hSw); go_simp; (try with_reducible rfl))
        (try simp only [Act.put, List.setIfInBounds_toArray, List.set_cons_zero, List.set_cons_succ])
        refine wpAnyH_take (i := 4) (oi := { dst := some 69, op := Op.move (Operand.tmp 68), type := 4, pos := "law.go:46", after := #[{ on := 3, ground := Ground.data }], guard := none }) (v := ?_) rfl (by kernel_rfl) (by kernel_rfl) (by kernel_rfl) (fun _ _ _ h => h) (Or.inl ⟨by rfl, ?_⟩) (by assumption) ?_
        rotate_left
        · (intro wz hSw; (try dsimp only at hSw); go_simp; (try with_reducible rfl))
        (try simp only [Act.put, List.setIfInBounds_toArray, List.set_cons_zero, List.set_cons_succ])
        refine wpAnyH_take (i := 5) (oi := { dst := some 70, op := Op.move (Operand.tmp 18), type := 4, pos := "law.go:46", after := #[{ on := 4, ground := Ground.guard }], guard := some (4, false) }) (v := ?_) rfl (by kernel_rfl) (by kernel_rfl) (by kernel_rfl) (fun _ _ _ h => h) (Or.inl ⟨by rfl, ?_⟩) (by assumption) ?_
        rotate_left
        · (intro wz hSw; (try dsimp only at hSw); go_simp; (try with_reducible rfl))
        (try simp only [Act.put, List.setIfInBounds_toArray, List.set_cons_zero, List.set_cons_succ])
        refine wpAnyH_take (i := 6) (oi := { dst := some 71, op := Op.unOp UnOp.not 4 (Operand.tmp 70), type := 4, pos := "law.go:46", after := #[{ on := 5, ground := Ground.data }, { on := 4, ground := Ground.guard }], guard := some (4, false) }) (v := ?_) rfl (by kernel_rfl) (by kernel_rfl) (by kernel_rfl) (fun _ _ _ h => h) (Or.inl ⟨by rfl, ?_⟩) (by assumption) ?_
        rotate_left
        · (intro wz hSw; (try dsimp only at hSw); go_simp; (try with_reducible rfl))
        (try simp only [Act.put, List.setIfInBounds_toArray, List.set_cons_zero, List.set_cons_succ])
        refine wpAnyH_take (i := 7) (oi := { dst := some 72, op := Op.move (Operand.tmp 71), type := 4, pos := "law.go:46", after := #[{ on := 6, ground := Ground.data }, { on := 4, ground := Ground.chain }, { on := 4, ground := Ground.guard }], guard := some (4, false) }) (v := ?_) rfl (by kernel_rfl) (by kernel_rfl) (by kernel_rfl) (fun _ _ _ h => h) (Or.inl ⟨by rfl, ?_⟩) (by assumption) ?_
        rotate_left
        · (intro wz hSw; (try dsimp only at hSw); go_simp; (try with_reducible rfl))
        (try simp only [Act.put, List.setIfInBounds_toArray, List.set_cons_zero, List.set_cons_succ])
        refine wpAnyH_take (i := 8) (oi := { dst := some 73, op := Op.move (Operand.tmp 13), type := 26, pos := "law.go:46", after := #[{ on := 7, ground := Ground.guard }], guard := some (7, true) }) (v := undef) rfl (by kernel_rfl) (by kernel_rfl) (by kernel_rfl) (fun _ _ _ h => h) (Or.inr ⟨by rfl, rfl⟩) (by assumption) ?_
        (try simp only [Act.put, List.setIfInBounds_toArray, List.set_cons_zero, List.set_cons_succ])
        refine wpAnyH_take (i := 9) (oi := { dst := some 74, op := Op.binOp BinOp.neq 26 (Operand.tmp 73) (Operand.const (Value.int IntKind.i64 1)) 26, type := 4, pos := "law.go:46", after := #[{ on := 8, ground := Ground.data }, { on := 7, ground := Ground.guard }], guard := some (7, true) }) (v := undef) rfl (by kernel_rfl) (by kernel_rfl) (by kernel_rfl) (fun _ _ _ h => h) (Or.inr ⟨by rfl, rfl⟩) (by assumption) ?_
        (try simp only [Act.put, List.setIfInBounds_toArray, List.set_cons_zero, List.set_cons_succ])
        refine wpAnyH_take (i := 10) (oi := { dst := some 75, op := Op.pick (Operand.tmp 72) (Operand.tmp 74) (Operand.const (Value.bool false)), type := 4, pos := "law.go:46", after := #[{ on := 7, ground := Ground.data }, { on := 9, ground := Ground.data }, { on := 4, ground := Ground.guard }], guard := some (4, false) }) (v := ?_) rfl (by kernel_rfl) (by kernel_rfl) (by kernel_rfl) (fun _ _ _ h => h) (Or.inl ⟨by rfl, ?_⟩) (by assumption) ?_
        rotate_left
        · (intro wz hSw; (try dsimp only at hSw); go_simp; (try with_reducible rfl))
        (try simp only [Act.put, List.setIfInBounds_toArray, List.set_cons_zero, List.set_cons_succ])
        refine wpAnyH_take (i := 11) (oi := { dst := some 76, op := Op.pick (Operand.tmp 69) (Operand.const (Value.bool true)) (Operand.tmp 75), type := 4, pos := "law.go:46", after := #[{ on := 4, ground := Ground.data }, { on := 10, ground := Ground.data }], guard := none }) (v := ?_) rfl (by kernel_rfl) (by kernel_rfl) (by kernel_rfl) (fun _ _ _ h => h) (Or.inl ⟨by rfl, ?_⟩) (by assumption) ?_
        rotate_left
        · (intro wz hSw; (try dsimp only at hSw); go_simp; (try with_reducible rfl))
        (try simp only [Act.put, List.setIfInBounds_toArray, List.set_cons_zero, List.set_cons_succ])
        refine wpAnyH_take (i := 12) (oi := { dst := some 77, op := Op.move (Operand.tmp 76), type := 4, pos := "law.go:46", after := #[{ on := 11, ground := Ground.data }, { on := 7, ground := Ground.chain }], guard := none }) (v := ?_) rfl (by kernel_rfl) (by kernel_rfl) (by kernel_rfl) (fun _ _ _ h => h) (Or.inl ⟨by rfl, ?_⟩) (by assumption) ?_
        rotate_left
        · (intro wz hSw; (try dsimp only at hSw); go_simp; (try with_reducible rfl))
        (try simp only [Act.put, List.setIfInBounds_toArray, List.set_cons_zero, List.set_cons_succ])
        refine wpAnyH_take (i := 13) (oi := { dst := some 78, op := Op.load 25 (Operand.tmp 12), type := 25, pos := "law.go:46", after := #[{ on := 12, ground := Ground.guard }], guard := some (12, false) }) (v := ?_) rfl (by kernel_rfl) (by kernel_rfl) (by kernel_rfl) (fun _ _ _ h => h) (Or.inl ⟨by rfl, ?_⟩) (by assumption) ?_
        rotate_left
        · (intro wz hSw; (try dsimp only at hSw); go_simp; (try with_reducible rfl))
        (try simp only [Act.put, List.setIfInBounds_toArray, List.set_cons_zero, List.set_cons_succ])
        refine wpAnyH_take (i := 15) (oi := { dst := some 80, op := Op.load 37 (Operand.tmp 17), type := 37, pos := "law.go:46", after := #[{ on := 12, ground := Ground.guard }], guard := some (12, false) }) (v := ?_) rfl (by kernel_rfl) (by kernel_rfl) (by kernel_rfl) (fun _ _ _ h => h) (Or.inl ⟨by rfl, ?_⟩) (by assumption) ?_
        rotate_left
        · (intro wz hSw; (try dsimp only at hSw); go_simp; (try with_reducible rfl))
        (try simp only [Act.put, List.setIfInBounds_toArray, List.set_cons_zero, List.set_cons_succ])
        refine wpAnyH_ready (rs := [14]) (by kernel_rfl) (by simp) ?_
        refine AllReadyH.cons (o := { dst := some 79, op := Op.call { callee := Callee.value (Operand.func 11), args := #[Operand.tmp 78], argTypes := #[25] }, type := 37, pos := "law.go:46", after := #[{ on := 13, ground := Ground.data }, { on := 12, ground := Ground.chain }, { on := 12, ground := Ground.guard }], guard := some (12, false) }) rfl (fun K hK => ?_) AllReadyH.nil
        go_simp
        refine (ref_any [] PD _ _ (DP.out.go (Kept.refl _).drew (Ext.refl _ _)) (fun _ h => by cases h) PDL.out).mono ?_
        rintro e x1 ⟨a1, b1, rfl, fx1, gx1⟩
        have K1 : Kept w8 x1 := (Kept.refl _).drew.trans gx1
        go_wp2_with fail
        refine hK.out _ _ ?_ (fun hHeld => ?_)
        · exact K1
        clear hK K
        (try simp only [Act.put, List.setIfInBounds_toArray, List.set_cons_zero, List.set_cons_succ])
        refine wpAnyH_ready (rs := [16]) (by kernel_rfl) (by simp) ?_
        refine AllReadyH.cons (o := { dst := some 81, op := Op.call { callee := Callee.value (Operand.func 18), args := #[Operand.tmp 79, Operand.tmp 80], argTypes := #[37, 37] }, type := 4, pos := "law.go:46", after := #[{ on := 14, ground := Ground.data }, { on := 15, ground := Ground.data }, { on := 14, ground := Ground.chain }, { on := 12, ground := Ground.guard }], guard := some (12, false) }) rfl (fun K hK => ?_) AllReadyH.nil
        go_simp
        refine (equal_any [] [] PD _ _ _ fx1 (HY1.out.go K1 (Ext.refl _ _))).mono ?_
        rintro e x2 ⟨rfl, g2⟩
        have K2 : Kept w8 x2 := K1.trans g2
        go_wp2_with fail
        refine hK.out _ _ ?_ (fun hHeld => ?_)
        · exact K2
        clear hK K
        (try simp only [Act.put, List.setIfInBounds_toArray, List.set_cons_zero, List.set_cons_succ])
        refine wpAnyH_take (i := 17) (oi := { dst := some 82, op := Op.unOp UnOp.not 4 (Operand.tmp 81), type := 4, pos := "law.go:46", after := #[{ on := 16, ground := Ground.data }, { on := 12, ground := Ground.guard }], guard := some (12, false) }) (v := ?_) rfl (by kernel_rfl) (by kernel_rfl) (by kernel_rfl) (fun _ _ _ h => h) (Or.inl ⟨by rfl, ?_⟩) (by assumption) ?_
        rotate_left
        · (intro wz hSw; (try dsimp only at hSw); go_simp; (try with_reducible rfl))
        (try simp only [Act.put, List.setIfInBounds_toArray, List.set_cons_zero, List.set_cons_succ])
        refine wpAnyH_take (i := 18) (oi := { dst := some 83, op := Op.pick (Operand.tmp 77) (Operand.const (Value.bool true)) (Operand.tmp 82), type := 4, pos := "law.go:46", after := #[{ on := 12, ground := Ground.data }, { on := 17, ground := Ground.data }], guard := none }) (v := ?_) rfl (by kernel_rfl) (by kernel_rfl) (by kernel_rfl) (fun _ _ _ h => h) (Or.inl ⟨by rfl, ?_⟩) (by assumption) ?_
        rotate_left
        · (intro wz hSw; (try dsimp only at hSw); go_simp; (try with_reducible rfl))
        (try simp only [Act.put, List.setIfInBounds_toArray, List.set_cons_zero, List.set_cons_succ])
        refine wpAnyH_done (by kernel_rfl) ?_ _
        go_wp2_with fail
        go_meet
        exact ⟨rfl, K2⟩
      · skip
        refine wp_region_held_drew (S := fun w' => Kept w8 w') (by kernel_rfl) ((Kept.refl _).drew) (fun hHeld => ?_)
        refine wpAnyH_take (i := 0) (oi := { dst := some 65, op := Op.move (Operand.tmp 13), type := 26, pos := "law.go:46", after := #[], guard := none }) (v := ?_) rfl (by kernel_rfl) (by kernel_rfl) (by kernel_rfl) (fun _ _ _ h => h) (Or.inl ⟨by rfl, ?_⟩) (by assumption) ?_
        rotate_left
        · (intro wz hSw; (try dsimp only at hSw); go_simp; (try with_reducible rfl))
        (try simp only [Act.put, List.setIfInBounds_toArray, List.set_cons_zero, List.set_cons_succ])
        refine wpAnyH_take (i := 1) (oi := { dst := some 66, op := Op.binOp BinOp.eql 26 (Operand.tmp 65) (Operand.const (Value.int IntKind.i64 0)) 26, type := 4, pos := "law.go:46", after := #[{ on := 0, ground := Ground.data }], guard := none }) (v := ?_) rfl (by kernel_rfl) (by kernel_rfl) (by kernel_rfl) (fun _ _ _ h => h) (Or.inl ⟨by rfl, ?_⟩) (by assumption) ?_
        rotate_left
        · (intro wz hSw; (try dsimp only at hSw); go_simp; (try with_reducible rfl))
        (try simp only [Act.put, List.setIfInBounds_toArray, List.set_cons_zero, List.set_cons_succ])
        refine wpAnyH_take (i := 2) (oi := { dst := some 67, op := Op.move (Operand.tmp 18), type := 4, pos := "law.go:46", after := #[], guard := none }) (v := ?_) rfl (by kernel_rfl) (by kernel_rfl) (by kernel_rfl) (fun _ _ _ h => h) (Or.inl ⟨by rfl, ?_⟩) (by assumption) ?_
        rotate_left
        · (intro wz hSw; (try dsimp only at hSw); go_simp; (try with_reducible rfl))
        (try simp only [Act.put, List.setIfInBounds_toArray, List.set_cons_zero, List.set_cons_succ])
        refine wpAnyH_take (i := 3) (oi := { dst := some 68, op := Op.binOp BinOp.neq 4 (Operand.tmp 66) (Operand.tmp 67) 4, type := 4, pos := "law.go:46", after := #[{ on := 1, ground := Ground.data }, { on := 2, ground := Ground.data }], guard := none }) (v := ?_) rfl (by kernel_rfl) (by kernel_rfl) (by kernel_rfl) (fun _ _ _ h => h) (Or.inl ⟨by rfl, ?_⟩) (by assumption) ?_
        rotate_left
        · (intro wz hSw; (try dsimp only at hSw); go_simp; (try with_reducible rfl))
        (try simp only [Act.put, List.setIfInBounds_toArray, List.set_cons_zero, List.set_cons_succ])
        refine wpAnyH_take (i := 4) (oi := { dst := some 69, op := Op.move (Operand.tmp 68), type := 4, pos := "law.go:46", after := #[{ on := 3, ground := Ground.data }], guard := none }) (v := ?_) rfl (by kernel_rfl) (by kernel_rfl) (by kernel_rfl) (fun _ _ _ h => h) (Or.inl ⟨by rfl, ?_⟩) (by assumption) ?_
        rotate_left
        · (intro wz hSw; (try dsimp only at hSw); go_simp; (try with_reducible rfl))
        (try simp only [Act.put, List.setIfInBounds_toArray, List.set_cons_zero, List.set_cons_succ])
        refine wpAnyH_take (i := 5) (oi := { dst := some 70, op := Op.move (Operand.tmp 18), type := 4, pos := "law.go:46", after := #[{ on := 4, ground := Ground.guard }], guard := some (4, false) }) (v := ?_) rfl (by kernel_rfl) (by kernel_rfl) (by kernel_rfl) (fun _ _ _ h => h) (Or.inl ⟨by rfl, ?_⟩) (by assumption) ?_
        rotate_left
        · (intro wz hSw; (try dsimp only at hSw); go_simp; (try with_reducible rfl))
        (try simp only [Act.put, List.setIfInBounds_toArray, List.set_cons_zero, List.set_cons_succ])
        refine wpAnyH_take (i := 6) (oi := { dst := some 71, op := Op.unOp UnOp.not 4 (Operand.tmp 70), type := 4, pos := "law.go:46", after := #[{ on := 5, ground := Ground.data }, { on := 4, ground := Ground.guard }], guard := some (4, false) }) (v := ?_) rfl (by kernel_rfl) (by kernel_rfl) (by kernel_rfl) (fun _ _ _ h => h) (Or.inl ⟨by rfl, ?_⟩) (by assumption) ?_
        rotate_left
        · (intro wz hSw; (try dsimp only at hSw); go_simp; (try with_reducible rfl))
        (try simp only [Act.put, List.setIfInBounds_toArray, List.set_cons_zero, List.set_cons_succ])
        refine wpAnyH_take (i := 7) (oi := { dst := some 72, op := Op.move (Operand.tmp 71), type := 4, pos := "law.go:46", after := #[{ on := 6, ground := Ground.data }, { on := 4, ground := Ground.chain }, { on := 4, ground := Ground.guard }], guard := some (4, false) }) (v := ?_) rfl (by kernel_rfl) (by kernel_rfl) (by kernel_rfl) (fun _ _ _ h => h) (Or.inl ⟨by rfl, ?_⟩) (by assumption) ?_
        rotate_left
        · (intro wz hSw; (try dsimp only at hSw); go_simp; (try with_reducible rfl))
        (try simp only [Act.put, List.setIfInBounds_toArray, List.set_cons_zero, List.set_cons_succ])
        refine wpAnyH_take (i := 8) (oi := { dst := some 73, op := Op.move (Operand.tmp 13), type := 26, pos := "law.go:46", after := #[{ on := 7, ground := Ground.guard }], guard := some (7, true) }) (v := ?_) rfl (by kernel_rfl) (by kernel_rfl) (by kernel_rfl) (fun _ _ _ h => h) (Or.inl ⟨by rfl, ?_⟩) (by assumption) ?_
        rotate_left
        · (intro wz hSw; (try dsimp only at hSw); go_simp; (try with_reducible rfl))
        (try simp only [Act.put, List.setIfInBounds_toArray, List.set_cons_zero, List.set_cons_succ])
        refine wpAnyH_take (i := 9) (oi := { dst := some 74, op := Op.binOp BinOp.neq 26 (Operand.tmp 73) (Operand.const (Value.int IntKind.i64 1)) 26, type := 4, pos := "law.go:46", after := #[{ on := 8, ground := Ground.data }, { on := 7, ground := Ground.guard }], guard := some (7, true) }) (v := ?_) rfl (by kernel_rfl) (by kernel_rfl) (by kernel_rfl) (fun _ _ _ h => h) (Or.inl ⟨by rfl, ?_⟩) (by assumption) ?_
        rotate_left
        · (intro wz hSw; (try dsimp only at hSw); go_simp; (try with_reducible rfl))
        (try simp only [Act.put, List.setIfInBounds_toArray, List.set_cons_zero, List.set_cons_succ])
        refine wpAnyH_take (i := 10) (oi := { dst := some 75, op := Op.pick (Operand.tmp 72) (Operand.tmp 74) (Operand.const (Value.bool false)), type := 4, pos := "law.go:46", after := #[{ on := 7, ground := Ground.data }, { on := 9, ground := Ground.data }, { on := 4, ground := Ground.guard }], guard := some (4, false) }) (v := ?_) rfl (by kernel_rfl) (by kernel_rfl) (by kernel_rfl) (fun _ _ _ h => h) (Or.inl ⟨by rfl, ?_⟩) (by assumption) ?_
        rotate_left
        · (intro wz hSw; (try dsimp only at hSw); go_simp; (try with_reducible rfl))
        (try simp only [Act.put, List.setIfInBounds_toArray, List.set_cons_zero, List.set_cons_succ])
        refine wpAnyH_take (i := 11) (oi := { dst := some 76, op := Op.pick (Operand.tmp 69) (Operand.const (Value.bool true)) (Operand.tmp 75), type := 4, pos := "law.go:46", after := #[{ on := 4, ground := Ground.data }, { on := 10, ground := Ground.data }], guard := none }) (v := ?_) rfl (by kernel_rfl) (by kernel_rfl) (by kernel_rfl) (fun _ _ _ h => h) (Or.inl ⟨by rfl, ?_⟩) (by assumption) ?_
        rotate_left
        · (intro wz hSw; (try dsimp only at hSw); go_simp; (try with_reducible rfl))
        (try simp only [Act.put, List.setIfInBounds_toArray, List.set_cons_zero, List.set_cons_succ])
        refine wpAnyH_take (i := 12) (oi := { dst := some 77, op := Op.move (Operand.tmp 76), type := 4, pos := "law.go:46", after := #[{ on := 11, ground := Ground.data }, { on := 7, ground := Ground.chain }], guard := none }) (v := ?_) rfl (by kernel_rfl) (by kernel_rfl) (by kernel_rfl) (fun _ _ _ h => h) (Or.inl ⟨by rfl, ?_⟩) (by assumption) ?_
        rotate_left
        · (intro wz hSw; (try dsimp only at hSw); go_simp; (try with_reducible rfl))
        (try simp only [Act.put, List.setIfInBounds_toArray, List.set_cons_zero, List.set_cons_succ])
        refine wpAnyH_take (i := 13) (oi := { dst := some 78, op := Op.load 25 (Operand.tmp 12), type := 25, pos := "law.go:46", after := #[{ on := 12, ground := Ground.guard }], guard := some (12, false) }) (v := ?_) rfl (by kernel_rfl) (by kernel_rfl) (by kernel_rfl) (fun _ _ _ h => h) (Or.inl ⟨by rfl, ?_⟩) (by assumption) ?_
        rotate_left
        · (intro wz hSw; (try dsimp only at hSw); go_simp; (try with_reducible rfl))
        (try simp only [Act.put, List.setIfInBounds_toArray, List.set_cons_zero, List.set_cons_succ])
        refine wpAnyH_take (i := 15) (oi := { dst := some 80, op := Op.load 37 (Operand.tmp 17), type := 37, pos := "law.go:46", after := #[{ on := 12, ground := Ground.guard }], guard := some (12, false) }) (v := ?_) rfl (by kernel_rfl) (by kernel_rfl) (by kernel_rfl) (fun _ _ _ h => h) (Or.inl ⟨by rfl, ?_⟩) (by assumption) ?_
        rotate_left
        · (intro wz hSw; (try dsimp only at hSw); go_simp; (try with_reducible rfl))
        (try simp only [Act.put, List.setIfInBounds_toArray, List.set_cons_zero, List.set_cons_succ])
        refine wpAnyH_ready (rs := [14]) (by kernel_rfl) (by simp) ?_
        refine AllReadyH.cons (o := { dst := some 79, op := Op.call { callee := Callee.value (Operand.func 11), args := #[Operand.tmp 78], argTypes := #[25] }, type := 37, pos := "law.go:46", after := #[{ on := 13, ground := Ground.data }, { on := 12, ground := Ground.chain }, { on := 12, ground := Ground.guard }], guard := some (12, false) }) rfl (fun K hK => ?_) AllReadyH.nil
        go_simp
        refine (ref_any [] PD _ _ (DP.out.go (Kept.refl _).drew (Ext.refl _ _)) (fun _ h => by cases h) PDL.out).mono ?_
        rintro e x1 ⟨a1, b1, rfl, fx1, gx1⟩
        have K1 : Kept w8 x1 := (Kept.refl _).drew.trans gx1
        go_wp2_with fail
        refine hK.out _ _ ?_ (fun hHeld => ?_)
        · exact K1
        clear hK K
        (try simp only [Act.put, List.setIfInBounds_toArray, List.set_cons_zero, List.set_cons_succ])
        refine wpAnyH_ready (rs := [16]) (by kernel_rfl) (by simp) ?_
        refine AllReadyH.cons (o := { dst := some 81, op := Op.call { callee := Callee.value (Operand.func 18), args := #[Operand.tmp 79, Operand.tmp 80], argTypes := #[37, 37] }, type := 4, pos := "law.go:46", after := #[{ on := 14, ground := Ground.data }, { on := 15, ground := Ground.data }, { on := 14, ground := Ground.chain }, { on := 12, ground := Ground.guard }], guard := some (12, false) }) rfl (fun K hK => ?_) AllReadyH.nil
        go_simp
        refine (equal_any [] [] PD _ _ _ fx1 (HY1.out.go K1 (Ext.refl _ _))).mono ?_
        rintro e x2 ⟨rfl, g2⟩
        have K2 : Kept w8 x2 := K1.trans g2
        go_wp2_with fail
        refine hK.out _ _ ?_ (fun hHeld => ?_)
        · exact K2
        clear hK K
        (try simp only [Act.put, List.setIfInBounds_toArray, List.set_cons_zero, List.set_cons_succ])
        refine wpAnyH_take (i := 17) (oi := { dst := some 82, op := Op.unOp UnOp.not 4 (Operand.tmp 81), type := 4, pos := "law.go:46", after := #[{ on := 16, ground := Ground.data }, { on := 12, ground := Ground.guard }], guard := some (12, false) }) (v := ?_) rfl (by kernel_rfl) (by kernel_rfl) (by kernel_rfl) (fun _ _ _ h => h) (Or.inl ⟨by rfl, ?_⟩) (by assumption) ?_
        rotate_left
        · (intro wz hSw; (try dsimp only at hSw); go_simp; (try with_reducible rfl))
        (try simp only [Act.put, List.setIfInBounds_toArray, List.set_cons_zero, List.set_cons_succ])
        refine wpAnyH_take (i := 18) (oi := { dst := some 83, op := Op.pick (Operand.tmp 77) (Operand.const (Value.bool true)) (Operand.tmp 82), type := 4, pos := "law.go:46", after := #[{ on := 12, ground := Ground.data }, { on := 17, ground := Ground.data }], guard := none }) (v := ?_) rfl (by kernel_rfl) (by kernel_rfl) (by kernel_rfl) (fun _ _ _ h => h) (Or.inl ⟨by rfl, ?_⟩) (by assumption) ?_
        rotate_left
        · (intro wz hSw; (try dsimp only at hSw); go_simp; (try with_reducible rfl))
        (try simp only [Act.put, List.setIfInBounds_toArray, List.set_cons_zero, List.set_cons_succ])
        refine wpAnyH_done (by kernel_rfl) ?_ _
        go_wp2_with fail
        go_meet
        exact ⟨rfl, K2⟩
    case rest =>
      obtain ⟨rfl, K2⟩ := hcut
      have BF2 := Lib.hid (BF.out.kept K2)
      have BC2 := Lib.hid (BC.out.kept K2)
      have B32 := Lib.hid (B3.out.kept K2)
      have B12 := Lib.hid (B1.out.kept K2)
      have DF2 := Lib.hid (DF.out.go K2 (Ext.refl _ _))
      have DC2 := Lib.hid (DC.out.go K2 (Ext.refl _ _))
      have DX2 := Lib.hid (DX.out.go K2 (Ext.refl _ _))
      have hkwc := hkw8.trans K2
      clear C1 C2 C3 C4 C5 HY1 HOY B4 DP PDL BF BC B3 DF DC DX hb HOK
      have E1 : ∀ W', Kept wc W' → W'.cell? ⟨g, 0, none⟩ = some (Value.slice F0 FL.sec.length f0) := fun W' hk => (BF2.out.kept hk).two.1
      have E2 : ∀ W', Kept wc W' → W'.cell? ⟨g, 1, none⟩ = some (Value.slice F1 FL.cache.length f1) := fun W' hk => (BF2.out.kept hk).two.2.1
      have E3 : ∀ W', Kept wc W' → W'.cell? ⟨h, 0, none⟩ = some (Value.slice G0 CR.sec.length g0) := fun W' hk => (BC2.out.kept hk).two.1
      have E4 : ∀ W', Kept wc W' → W'.cell? ⟨h, 1, none⟩ = some (Value.slice G3 CR.cache.length g1) := fun W' hk => (BC2.out.kept hk).two.2.1
      have E5 : ∀ W', Kept wc W' → W'.cell? ⟨w1.heap.size, 0, none⟩ = some (Value.slice R0 d.sec.length r0) := fun W' hk => (B32.out.kept hk).two.1
      have E6 : ∀ W', Kept wc W' → W'.cell? ⟨w1.heap.size, 1, none⟩ = some (Value.slice R1 d.cache.length r1) := fun W' hk => (B32.out.kept hk).two.2.1
      have E0 := B12.out.two.1
      have t1 : True := trivial
      have t2 : True := trivial
      have t3 : True := trivial
      have t4 : True := trivial
      have t5 : True := trivial
      have t6 : True := trivial
      have t7 : True := trivial
      have t8 : True := trivial
      cases r with
      | false =>
        have HFd : Hid (FL = d) := by show _ = _; rw [← HFL.out]; simp [flushD, HR.out]
        have HCd : Hid (CR = d) := by show _ = _; rw [← HCR.out]; simp [crashD, HR.out]
        have HRD : readR d at_ = (.empty, 1) := by simp [readR, HR.out]
        rw [HRD]
        clear HRD
        dsimp only
        have e1 := HFd.out
        have e2 := HCd.out
        clear HFd HCd
        subst e1
        subst e2
        go_wp2_with fail
        refine wp_region_held_drew (S := fun w' => Kept wc w') (by kernel_rfl) ((Kept.refl _).drew) (fun hHeld => ?_)
        refine wpAnyH_take (i := 0) (oi := { dst := some 86, op := Op.move (Operand.tmp 10), type := 9, pos := "law.go:50", after := #[], guard := none }) (v := ?_) rfl (by kernel_rfl) (by kernel_rfl) (by kernel_rfl) (fun _ _ _ h => h) (Or.inl ⟨by rfl, ?_⟩) (by assumption) ?_
        rotate_left
        · (intro wz hSw; (try dsimp only at hSw); go_simp; (try with_reducible rfl))
        (try simp only [Act.put, List.setIfInBounds_toArray, List.set_cons_zero, List.set_cons_succ])
        refine wpAnyH_take (i := 1) (oi := { dst := some 87, op := Op.binOp BinOp.eql 9 (Operand.tmp 86) (Operand.const (Value.string { data := #[] })) 9, type := 4, pos := "law.go:50", after := #[{ on := 0, ground := Ground.data }], guard := none }) (v := ?_) rfl (by kernel_rfl) (by kernel_rfl) (by kernel_rfl) (fun _ _ _ h => h) (Or.inl ⟨by rfl, ?_⟩) (by assumption) ?_
        rotate_left
        · (intro wz hSw; (try dsimp only at hSw); go_simp; (try with_reducible rfl))
        (try simp only [Act.put, List.setIfInBounds_toArray, List.set_cons_zero, List.set_cons_succ])
        refine wpAnyH_take (i := 2) (oi := { dst := some 88, op := Op.move (Operand.tmp 87), type := 4, pos := "law.go:50", after := #[{ on := 1, ground := Ground.data }], guard := none }) (v := ?_) rfl (by kernel_rfl) (by kernel_rfl) (by kernel_rfl) (fun _ _ _ h => h) (Or.inl ⟨by rfl, ?_⟩) (by assumption) ?_
        rotate_left
        · (intro wz hSw; (try dsimp only at hSw); go_simp; (try with_reducible rfl))
        (try simp only [Act.put, List.setIfInBounds_toArray, List.set_cons_zero, List.set_cons_succ])
        refine wpAnyH_take (i := 3) (oi := { dst := some 89, op := Op.move (Operand.tmp 11), type := 26, pos := "law.go:50", after := #[{ on := 2, ground := Ground.guard }], guard := some (2, true) }) (v := ?_) rfl (by kernel_rfl) (by kernel_rfl) (by kernel_rfl) (fun _ _ _ h => h) (Or.inl ⟨by rfl, ?_⟩) (by assumption) ?_
        rotate_left
        · (intro wz hSw; (try dsimp only at hSw); go_simp; (try with_reducible rfl))
        (try simp only [Act.put, List.setIfInBounds_toArray, List.set_cons_zero, List.set_cons_succ])
        refine wpAnyH_take (i := 4) (oi := { dst := some 90, op := Op.binOp BinOp.eql 26 (Operand.tmp 89) (Operand.const (Value.int IntKind.i64 1)) 26, type := 4, pos := "law.go:50", after := #[{ on := 3, ground := Ground.data }, { on := 2, ground := Ground.guard }], guard := some (2, true) }) (v := ?_) rfl (by kernel_rfl) (by kernel_rfl) (by kernel_rfl) (fun _ _ _ h => h) (Or.inl ⟨by rfl, ?_⟩) (by assumption) ?_
        rotate_left
        · (intro wz hSw; (try dsimp only at hSw); go_simp; (try with_reducible rfl))
        (try simp only [Act.put, List.setIfInBounds_toArray, List.set_cons_zero, List.set_cons_succ])
        refine wpAnyH_take (i := 5) (oi := { dst := some 91, op := Op.pick (Operand.tmp 88) (Operand.tmp 90) (Operand.const (Value.bool false)), type := 4, pos := "law.go:50", after := #[{ on := 2, ground := Ground.data }, { on := 4, ground := Ground.data }], guard := none }) (v := ?_) rfl (by kernel_rfl) (by kernel_rfl) (by kernel_rfl) (fun _ _ _ h => h) (Or.inl ⟨by rfl, ?_⟩) (by assumption) ?_
        rotate_left
        · (intro wz hSw; (try dsimp only at hSw); go_simp; (try with_reducible rfl))
        (try simp only [Act.put, List.setIfInBounds_toArray, List.set_cons_zero, List.set_cons_succ])
        refine wpAnyH_take (i := 6) (oi := { dst := some 92, op := Op.move (Operand.tmp 91), type := 4, pos := "law.go:50", after := #[{ on := 5, ground := Ground.data }, { on := 2, ground := Ground.chain }], guard := none }) (v := ?_) rfl (by kernel_rfl) (by kernel_rfl) (by kernel_rfl) (fun _ _ _ h => h) (Or.inl ⟨by rfl, ?_⟩) (by assumption) ?_
        rotate_left
        · (intro wz hSw; (try dsimp only at hSw); go_simp; (try with_reducible rfl))
        (try simp only [Act.put, List.setIfInBounds_toArray, List.set_cons_zero, List.set_cons_succ])
        refine wpAnyH_take (i := 7) (oi := { dst := some 93, op := Op.load 25 (Operand.tmp 14), type := 25, pos := "law.go:50", after := #[{ on := 6, ground := Ground.guard }], guard := some (6, true) }) (v := ?_) rfl (by kernel_rfl) (by kernel_rfl) (by kernel_rfl) (fun _ _ _ h => h) (Or.inl ⟨by rfl, ?_⟩) (by assumption) ?_
        rotate_left
        · (intro wz hSw; (try dsimp only at hSw); go_simp; (try with_reducible rfl))
        (try simp only [Act.put, List.setIfInBounds_toArray, List.set_cons_zero, List.set_cons_succ])
        refine wpAnyH_take (i := 9) (oi := { dst := some 95, op := Op.load 37 (Operand.tmp 9), type := 37, pos := "law.go:50", after := #[{ on := 6, ground := Ground.guard }], guard := some (6, true) }) (v := ?_) rfl (by kernel_rfl) (by kernel_rfl) (by kernel_rfl) (fun _ _ _ h => h) (Or.inl ⟨by rfl, ?_⟩) (by assumption) ?_
        rotate_left
        · (intro wz hSw; (try dsimp only at hSw); go_simp; (try with_reducible rfl))
        (try simp only [Act.put, List.setIfInBounds_toArray, List.set_cons_zero, List.set_cons_succ])
        refine wpAnyH_ready (rs := [8]) (by kernel_rfl) (by simp) ?_
        refine AllReadyH.cons (o := { dst := some 94, op := Op.call { callee := Callee.value (Operand.func 11), args := #[Operand.tmp 93], argTypes := #[25] }, type := 37, pos := "law.go:50", after := #[{ on := 7, ground := Ground.data }, { on := 6, ground := Ground.chain }, { on := 6, ground := Ground.guard }], guard := some (6, true) }) rfl (fun K hK => ?_) AllReadyH.nil
        go_simp
        refine (ref_any [] _ _ _ (DF2.out.go (Kept.refl _).drew (Ext.refl _ _)) (fun _ h => by cases h) (by omega)).mono ?_
        rintro e y1 ⟨a1, b1, rfl, i1, j1⟩
        have Q1 : Kept wc y1 := (Kept.refl _).drew.trans j1
        go_wp2_with fail
        refine hK.out _ _ ?_ (fun hHeld => ?_)
        · exact Q1
        clear hK K
        (try simp only [Act.put, List.setIfInBounds_toArray, List.set_cons_zero, List.set_cons_succ])
        refine wpAnyH_ready (rs := [10]) (by kernel_rfl) (by simp) ?_
        refine AllReadyH.cons (o := { dst := some 96, op := Op.call { callee := Callee.value (Operand.func 18), args := #[Operand.tmp 94, Operand.tmp 95], argTypes := #[37, 37] }, type := 4, pos := "law.go:50", after := #[{ on := 8, ground := Ground.data }, { on := 9, ground := Ground.data }, { on := 8, ground := Ground.chain }, { on := 6, ground := Ground.guard }], guard := some (6, true) }) rfl (fun K hK => ?_) AllReadyH.nil
        go_simp
        refine (equal_any [] [] _ _ _ _ i1 (DX2.out.go Q1 (Ext.refl _ _))).mono ?_
        rintro e y2 ⟨rfl, j2⟩
        have Q2 : Kept wc y2 := Q1.trans j2
        go_wp2_with fail
        refine hK.out _ _ ?_ (fun hHeld => ?_)
        · exact Q2
        clear hK K
        (try simp only [Act.put, List.setIfInBounds_toArray, List.set_cons_zero, List.set_cons_succ])
        refine wpAnyH_take (i := 11) (oi := { dst := some 97, op := Op.pick (Operand.tmp 92) (Operand.tmp 96) (Operand.const (Value.bool false)), type := 4, pos := "law.go:50", after := #[{ on := 6, ground := Ground.data }, { on := 10, ground := Ground.data }], guard := none }) (v := ?_) rfl (by kernel_rfl) (by kernel_rfl) (by kernel_rfl) (fun _ _ _ h => h) (Or.inl ⟨by rfl, ?_⟩) (by assumption) ?_
        rotate_left
        · (intro wz hSw; (try dsimp only at hSw); go_simp; (try with_reducible rfl))
        (try simp only [Act.put, List.setIfInBounds_toArray, List.set_cons_zero, List.set_cons_succ])
        refine wpAnyH_take (i := 12) (oi := { dst := some 98, op := Op.move (Operand.tmp 97), type := 4, pos := "law.go:50", after := #[{ on := 11, ground := Ground.data }, { on := 10, ground := Ground.chain }], guard := none }) (v := ?_) rfl (by kernel_rfl) (by kernel_rfl) (by kernel_rfl) (fun _ _ _ h => h) (Or.inl ⟨by rfl, ?_⟩) (by assumption) ?_
        rotate_left
        · (intro wz hSw; (try dsimp only at hSw); go_simp; (try with_reducible rfl))
        (try simp only [Act.put, List.setIfInBounds_toArray, List.set_cons_zero, List.set_cons_succ])
        refine wpAnyH_take (i := 13) (oi := { dst := some 99, op := Op.load 25 (Operand.tmp 15), type := 25, pos := "law.go:50", after := #[{ on := 12, ground := Ground.guard }], guard := some (12, true) }) (v := ?_) rfl (by kernel_rfl) (by kernel_rfl) (by kernel_rfl) (fun _ _ _ h => h) (Or.inl ⟨by rfl, ?_⟩) (by assumption) ?_
        rotate_left
        · (intro wz hSw; (try dsimp only at hSw); go_simp; (try with_reducible rfl))
        (try simp only [Act.put, List.setIfInBounds_toArray, List.set_cons_zero, List.set_cons_succ])
        refine wpAnyH_take (i := 15) (oi := { dst := some 101, op := Op.load 37 (Operand.tmp 9), type := 37, pos := "law.go:50", after := #[{ on := 12, ground := Ground.guard }], guard := some (12, true) }) (v := ?_) rfl (by kernel_rfl) (by kernel_rfl) (by kernel_rfl) (fun _ _ _ h => h) (Or.inl ⟨by rfl, ?_⟩) (by assumption) ?_
        rotate_left
        · (intro wz hSw; (try dsimp only at hSw); go_simp; (try with_reducible rfl))
        (try simp only [Act.put, List.setIfInBounds_toArray, List.set_cons_zero, List.set_cons_succ])
        refine wpAnyH_ready (rs := [14]) (by kernel_rfl) (by simp) ?_
        refine AllReadyH.cons (o := { dst := some 100, op := Op.call { callee := Callee.value (Operand.func 11), args := #[Operand.tmp 99], argTypes := #[25] }, type := 37, pos := "law.go:50", after := #[{ on := 13, ground := Ground.data }, { on := 12, ground := Ground.chain }, { on := 12, ground := Ground.guard }], guard := some (12, true) }) rfl (fun K hK => ?_) AllReadyH.nil
        go_simp
        refine (ref_any [] _ _ _ (DC2.out.go Q2 (Ext.refl _ _)) (fun _ h => by cases h) (by omega)).mono ?_
        rintro e y3 ⟨a3, b3, rfl, i3, j3⟩
        have Q3 : Kept wc y3 := Q2.trans j3
        go_wp2_with fail
        refine hK.out _ _ ?_ (fun hHeld => ?_)
        · exact Q3
        clear hK K
        (try simp only [Act.put, List.setIfInBounds_toArray, List.set_cons_zero, List.set_cons_succ])
        refine wpAnyH_ready (rs := [16]) (by kernel_rfl) (by simp) ?_
        refine AllReadyH.cons (o := { dst := some 102, op := Op.call { callee := Callee.value (Operand.func 18), args := #[Operand.tmp 100, Operand.tmp 101], argTypes := #[37, 37] }, type := 4, pos := "law.go:50", after := #[{ on := 14, ground := Ground.data }, { on := 15, ground := Ground.data }, { on := 14, ground := Ground.chain }, { on := 12, ground := Ground.guard }], guard := some (12, true) }) rfl (fun K hK => ?_) AllReadyH.nil
        go_simp
        refine (equal_any [] [] _ _ _ _ i3 (DX2.out.go Q3 (Ext.refl _ _))).mono ?_
        rintro e y4 ⟨rfl, j4⟩
        have Q4 : Kept wc y4 := Q3.trans j4
        go_wp2_with fail
        refine hK.out _ _ ?_ (fun hHeld => ?_)
        · exact Q4
        clear hK K
        (try simp only [Act.put, List.setIfInBounds_toArray, List.set_cons_zero, List.set_cons_succ])
        refine wpAnyH_take (i := 17) (oi := { dst := some 103, op := Op.pick (Operand.tmp 98) (Operand.tmp 102) (Operand.const (Value.bool false)), type := 4, pos := "law.go:50", after := #[{ on := 12, ground := Ground.data }, { on := 16, ground := Ground.data }], guard := none }) (v := ?_) rfl (by kernel_rfl) (by kernel_rfl) (by kernel_rfl) (fun _ _ _ h => h) (Or.inl ⟨by rfl, ?_⟩) (by assumption) ?_
        rotate_left
        · (intro wz hSw; (try dsimp only at hSw); go_simp; (try with_reducible rfl))
        (try simp only [Act.put, List.setIfInBounds_toArray, List.set_cons_zero, List.set_cons_succ])
        refine wpAnyH_take (i := 18) (oi := { dst := some 104, op := Op.move (Operand.tmp 103), type := 4, pos := "law.go:50", after := #[{ on := 17, ground := Ground.data }, { on := 16, ground := Ground.chain }], guard := none }) (v := ?_) rfl (by kernel_rfl) (by kernel_rfl) (by kernel_rfl) (fun _ _ _ h => h) (Or.inl ⟨by rfl, ?_⟩) (by assumption) ?_
        rotate_left
        · (intro wz hSw; (try dsimp only at hSw); go_simp; (try with_reducible rfl))
        (try simp only [Act.put, List.setIfInBounds_toArray, List.set_cons_zero, List.set_cons_succ])
        refine wpAnyH_ready (rs := [19]) (by kernel_rfl) (by simp) ?_
        refine AllReadyH.cons (o := { dst := some 105, op := Op.call { callee := Callee.value (Operand.func 8), args := #[], argTypes := #[] }, type := 4, pos := "law.go:50", after := #[{ on := 18, ground := Ground.chain }, { on := 18, ground := Ground.guard }], guard := some (18, true) }) rfl (fun K hK => ?_) AllReadyH.nil
        go_simp
        refine (awake9 _).mono ?_
        rintro e y5 ⟨rfl, j5⟩
        have Q5 : Kept wc y5 := Q4.trans j5
        go_wp2_with fail
        refine hK.out _ _ ?_ (fun hHeld => ?_)
        · exact Q5
        clear hK K
        (try simp only [Act.put, List.setIfInBounds_toArray, List.set_cons_zero, List.set_cons_succ])
        refine wpAnyH_take (i := 20) (oi := { dst := some 106, op := Op.pick (Operand.tmp 104) (Operand.tmp 105) (Operand.const (Value.bool false)), type := 4, pos := "law.go:50", after := #[{ on := 18, ground := Ground.data }, { on := 19, ground := Ground.data }], guard := none }) (v := ?_) rfl (by kernel_rfl) (by kernel_rfl) (by kernel_rfl) (fun _ _ _ h => h) (Or.inl ⟨by rfl, ?_⟩) (by assumption) ?_
        rotate_left
        · (intro wz hSw; (try dsimp only at hSw); go_simp; (try with_reducible rfl))
        (try simp only [Act.put, List.setIfInBounds_toArray, List.set_cons_zero, List.set_cons_succ])
        refine wpAnyH_take (i := 21) (oi := { dst := some 8, op := Op.assign (Operand.tmp 106), type := 4, pos := "law.go:50", after := #[{ on := 20, ground := Ground.data }, { on := 19, ground := Ground.chain }, { on := 0, ground := Ground.phase }, { on := 1, ground := Ground.phase }, { on := 2, ground := Ground.phase }, { on := 3, ground := Ground.phase }, { on := 4, ground := Ground.phase }, { on := 5, ground := Ground.phase }, { on := 6, ground := Ground.phase }, { on := 7, ground := Ground.phase }, { on := 8, ground := Ground.phase }, { on := 9, ground := Ground.phase }, { on := 10, ground := Ground.phase }, { on := 11, ground := Ground.phase }, { on := 12, ground := Ground.phase }, { on := 13, ground := Ground.phase }, { on := 14, ground := Ground.phase }, { on := 15, ground := Ground.phase }, { on := 16, ground := Ground.phase }, { on := 17, ground := Ground.phase }, { on := 18, ground := Ground.phase }, { on := 19, ground := Ground.phase }, { on := 20, ground := Ground.phase }], guard := none }) (v := ?_) rfl (by kernel_rfl) (by kernel_rfl) (by kernel_rfl) (fun _ _ _ h => h) (Or.inl ⟨by rfl, ?_⟩) (by assumption) ?_
        rotate_left
        · (intro wz hSw; (try dsimp only at hSw); go_simp; (try with_reducible rfl))
        (try simp only [Act.put, List.setIfInBounds_toArray, List.set_cons_zero, List.set_cons_succ])
        refine wpAnyH_done (by kernel_rfl) ?_ _
        go_wp2
        go_ret
        exact ⟨rfl, hkwc.trans Q5⟩
      | true =>
        have hxs : ∀ z ∈ d.cache, 0 ≤ z.at_ := fun z hz => ((right_parts HR.out).2.2.2 z hz).1
        have HA1 : Hid ((⟨rcrashL d fun (i : Nat) => hasB (upTo d.cache.length) i, []⟩ : Dk) = FL) := by
          show _ = _
          rw [← HFL.out, rcrash_perf _ hxs]
          simp only [flushD, HR.out, if_true, perf]
          rw [perfTo_congr (q := fun _ => true)]
          intro i hi
          simp only [hasB, upTo, List.contains_iff_mem, List.mem_map, List.mem_range]
          exact ⟨i, hi, rfl⟩
        have HA2 : Hid ((⟨rcrashL d fun (i : Nat) => hasB keep i, []⟩ : Dk) = CR) := by
          show _ = _
          rw [← HCR.out, rcrash_perf _ hxs]
          simp only [crashD, HR.out, if_true, perf]
          rfl
        have HFn : Hid (FL.cache.length = 0) := by show _ = _; rw [← HA1.out]; rfl
        have HCn : Hid (CR.cache.length = 0) := by show _ = _; rw [← HA2.out]; rfl
        have HU2 := Lib.hid (HU.out.go hkwc (Ext.refl _ _))
        clear hxs
        by_cases ha : 0 ≤ at_
        · by_cases hb : at_ < (d.sec.length : Int)
          · obtain ⟨n, rfl⟩ := Int.eq_ofNat_of_zero_le ha
            have hn : n < d.sec.length := by omega
            have HRD : readR d n = (readD d n, 0) := by simp [readR, HR.out, hn]
            rw [HRD]
            clear HRD
            dsimp only
            have G5 := E5 wc (Kept.refl _)
            have G6 := E6 wc (Kept.refl _)
            go_wp2_with fail
            refine (rread_any [] d n _ _ DX2.out hn).mono ?_
            rintro e y0 ⟨rfl, j0⟩
            generalize readD d n = rd at *
            have KX : ∀ {W'}, Kept y0 W' → Kept wc W' := fun hk => j0.trans hk
            have E1' : ∀ W', Kept y0 W' → W'.cell? ⟨g, 0, none⟩ = some (Value.slice F0 FL.sec.length f0) := fun W' hk => E1 W' (KX hk)
            have E2' : ∀ W', Kept y0 W' → W'.cell? ⟨g, 1, none⟩ = some (Value.slice F1 FL.cache.length f1) := fun W' hk => E2 W' (KX hk)
            have E3' : ∀ W', Kept y0 W' → W'.cell? ⟨h, 0, none⟩ = some (Value.slice G0 CR.sec.length g0) := fun W' hk => E3 W' (KX hk)
            have E4' : ∀ W', Kept y0 W' → W'.cell? ⟨h, 1, none⟩ = some (Value.slice G3 CR.cache.length g1) := fun W' hk => E4 W' (KX hk)
            have E5' : ∀ W', Kept y0 W' → W'.cell? ⟨w1.heap.size, 0, none⟩ = some (Value.slice R0 d.sec.length r0) := fun W' hk => E5 W' (KX hk)
            have E6' : ∀ W', Kept y0 W' → W'.cell? ⟨w1.heap.size, 1, none⟩ = some (Value.slice R1 d.cache.length r1) := fun W' hk => E6 W' (KX hk)
            clear E1 E2 E3 E4 E5 E6 G5 G6
            go_wp2_with fail
            refine wp_region_held_drew (S := fun w' => Kept y0 w') (by kernel_rfl) ((Kept.refl _).drew) (fun hHeld => ?_)
            refine wpAnyH_take (i := 0) (oi := { dst := some 131, op := Op.load 25 (Operand.tmp 14), type := 25, pos := "law.go:59", after := #[], guard := none }) (v := ?_) rfl (by kernel_rfl) (by kernel_rfl) (by kernel_rfl) (fun _ _ _ h => h) (Or.inl ⟨by rfl, ?_⟩) (by assumption) ?_
            rotate_left
            · (intro wz hSw; (try dsimp only at hSw); go_simp; (try with_reducible rfl))
            (try simp only [Act.put, List.setIfInBounds_toArray, List.set_cons_zero, List.set_cons_succ])
            refine wpAnyH_take (i := 2) (oi := { dst := some 133, op := Op.load 37 (Operand.tmp 9), type := 37, pos := "law.go:59", after := #[], guard := none }) (v := ?_) rfl (by kernel_rfl) (by kernel_rfl) (by kernel_rfl) (fun _ _ _ h => h) (Or.inl ⟨by rfl, ?_⟩) (by assumption) ?_
            rotate_left
            · (intro wz hSw; (try dsimp only at hSw); go_simp; (try with_reducible rfl))
            (try simp only [Act.put, List.setIfInBounds_toArray, List.set_cons_zero, List.set_cons_succ])
            refine wpAnyH_take (i := 3) (oi := { dst := some 134, op := Op.fieldAddr 37 (Operand.tmp 9) 1, type := 0, pos := "law.go:59", after := #[], guard := none }) (v := ?_) rfl (by kernel_rfl) (by kernel_rfl) (by kernel_rfl) (fun _ _ _ h => h) (Or.inl ⟨by rfl, ?_⟩) (by assumption) ?_
            rotate_left
            · (intro wz hSw; (try dsimp only at hSw); go_simp; (try with_reducible rfl))
            (try simp only [Act.put, List.setIfInBounds_toArray, List.set_cons_zero, List.set_cons_succ])
            refine wpAnyH_take (i := 4) (oi := { dst := some 135, op := Op.load 35 (Operand.tmp 134), type := 35, pos := "law.go:59", after := #[{ on := 3, ground := Ground.data }], guard := none }) (v := ?_) rfl (by kernel_rfl) (by kernel_rfl) (by kernel_rfl) (fun _ _ _ h => h) (Or.inl ⟨by rfl, ?_⟩) (by assumption) ?_
            rotate_left
            · (intro wz hSw; (try dsimp only at hSw); go_simp; (try with_reducible rfl))
            (try simp only [Act.put, List.setIfInBounds_toArray, List.set_cons_zero, List.set_cons_succ])
            refine wpAnyH_take (i := 5) (oi := { dst := some 136, op := Op.call { callee := Callee.builtin Builtin.len, args := #[Operand.tmp 135], argTypes := #[35] }, type := 3, pos := "law.go:59", after := #[{ on := 4, ground := Ground.data }], guard := none }) (v := ?_) rfl (by kernel_rfl) (by kernel_rfl) (by kernel_rfl) (fun _ _ _ h => h) (Or.inl ⟨by rfl, ?_⟩) (by assumption) ?_
            rotate_left
            · (intro wz hSw; (try dsimp only at hSw); go_simp; (try with_reducible rfl))
            (try simp only [Act.put, List.setIfInBounds_toArray, List.set_cons_zero, List.set_cons_succ])
            refine wpAnyH_ready (rs := [1]) (by kernel_rfl) (by simp) ?_
            refine AllReadyH.cons (o := { dst := some 132, op := Op.call { callee := Callee.value (Operand.func 11), args := #[Operand.tmp 131], argTypes := #[25] }, type := 37, pos := "law.go:59", after := #[{ on := 0, ground := Ground.data }], guard := none }) rfl (fun K hK => ?_) AllReadyH.nil
            go_simp
            refine (ref_any [] FL _ _ (DF2.out.go (KX (Kept.refl _).drew) (Ext.refl _ _)) (fun _ h => by cases h) (by rw [HFn.out]; omega)).mono ?_
            rintro e y1 ⟨a1, b1, rfl, i1, j1⟩
            have P1 : Kept y0 y1 := (Kept.refl _).drew.trans j1
            have Q1 : Kept wc y1 := KX P1
            go_wp2_with fail
            refine hK.out _ _ ?_ (fun hHeld => ?_)
            · exact P1
            clear hK K
            (try simp only [Act.put, List.setIfInBounds_toArray, List.set_cons_zero, List.set_cons_succ])
            refine wpAnyH_ready (rs := [6]) (by kernel_rfl) (by simp) ?_
            refine AllReadyH.cons (o := { dst := some 137, op := Op.call { callee := Callee.value (Operand.func 21), args := #[Operand.tmp 136], argTypes := #[3] }, type := 44, pos := "law.go:59", after := #[{ on := 5, ground := Ground.data }, { on := 1, ground := Ground.chain }], guard := none }) rfl (fun K hK => ?_) AllReadyH.nil
            go_simp
            refine (all_any [] _ _ (fun _ h => by cases h) (by omega)).mono ?_
            rintro e y2 ⟨a2, b2, rfl, i2, j2⟩
            have P2 : Kept y0 y2 := P1.trans j2
            have Q2 : Kept wc y2 := KX P2
            go_wp2_with fail
            refine hK.out _ _ ?_ (fun hHeld => ?_)
            · exact P2
            clear hK K
            (try simp only [Act.put, List.setIfInBounds_toArray, List.set_cons_zero, List.set_cons_succ])
            refine wpAnyH_ready (rs := [7]) (by kernel_rfl) (by simp) ?_
            refine AllReadyH.cons (o := { dst := some 138, op := Op.call { callee := Callee.value (Operand.func 20), args := #[Operand.tmp 133, Operand.tmp 137], argTypes := #[37, 44] }, type := 37, pos := "law.go:59", after := #[{ on := 2, ground := Ground.data }, { on := 6, ground := Ground.data }, { on := 6, ground := Ground.chain }], guard := none }) rfl (fun K hK => ?_) AllReadyH.nil
            go_simp
            refine (rcrash_any [] d (upTo d.cache.length) _ _ _ (DX2.out.go Q2 (Ext.refl _ _)) i2 (fun _ h => by cases h) (by omega)).mono ?_
            rintro e y3 ⟨a3, b3, rfl, i3, j3⟩
            have P3 : Kept y0 y3 := P2.trans j3
            have Q3 : Kept wc y3 := KX P3
            rw [HA1.out] at i3
            go_wp2_with fail
            refine hK.out _ _ ?_ (fun hHeld => ?_)
            · exact P3
            clear hK K
            (try simp only [Act.put, List.setIfInBounds_toArray, List.set_cons_zero, List.set_cons_succ])
            refine wpAnyH_ready (rs := [8]) (by kernel_rfl) (by simp) ?_
            refine AllReadyH.cons (o := { dst := some 139, op := Op.call { callee := Callee.value (Operand.func 18), args := #[Operand.tmp 132, Operand.tmp 138], argTypes := #[37, 37] }, type := 4, pos := "law.go:59", after := #[{ on := 1, ground := Ground.data }, { on := 7, ground := Ground.data }, { on := 7, ground := Ground.chain }], guard := none }) rfl (fun K hK => ?_) AllReadyH.nil
            go_simp
            refine (equal_any [] [] FL _ _ _ (i1.go (j2.trans j3) (Ext.refl _ _)) i3).mono ?_
            rintro e y4 ⟨rfl, j4⟩
            have P4 : Kept y0 y4 := P3.trans j4
            have Q4 : Kept wc y4 := KX P4
            go_wp2_with fail
            refine hK.out _ _ ?_ (fun hHeld => ?_)
            · exact P4
            clear hK K
            (try simp only [Act.put, List.setIfInBounds_toArray, List.set_cons_zero, List.set_cons_succ])
            refine wpAnyH_take (i := 9) (oi := { dst := some 140, op := Op.move (Operand.tmp 139), type := 4, pos := "law.go:59", after := #[{ on := 8, ground := Ground.data }, { on := 8, ground := Ground.chain }], guard := none }) (v := ?_) rfl (by kernel_rfl) (by kernel_rfl) (by kernel_rfl) (fun _ _ _ h => h) (Or.inl ⟨by rfl, ?_⟩) (by assumption) ?_
            rotate_left
            · (intro wz hSw; (try dsimp only at hSw); go_simp; (try with_reducible rfl))
            (try simp only [Act.put, List.setIfInBounds_toArray, List.set_cons_zero, List.set_cons_succ])
            refine wpAnyH_take (i := 10) (oi := { dst := some 141, op := Op.load 25 (Operand.tmp 15), type := 25, pos := "law.go:59", after := #[{ on := 9, ground := Ground.guard }], guard := some (9, true) }) (v := ?_) rfl (by kernel_rfl) (by kernel_rfl) (by kernel_rfl) (fun _ _ _ h => h) (Or.inl ⟨by rfl, ?_⟩) (by assumption) ?_
            rotate_left
            · (intro wz hSw; (try dsimp only at hSw); go_simp; (try with_reducible rfl))
            (try simp only [Act.put, List.setIfInBounds_toArray, List.set_cons_zero, List.set_cons_succ])
            refine wpAnyH_take (i := 12) (oi := { dst := some 143, op := Op.load 37 (Operand.tmp 9), type := 37, pos := "law.go:59", after := #[{ on := 9, ground := Ground.guard }], guard := some (9, true) }) (v := ?_) rfl (by kernel_rfl) (by kernel_rfl) (by kernel_rfl) (fun _ _ _ h => h) (Or.inl ⟨by rfl, ?_⟩) (by assumption) ?_
            rotate_left
            · (intro wz hSw; (try dsimp only at hSw); go_simp; (try with_reducible rfl))
            (try simp only [Act.put, List.setIfInBounds_toArray, List.set_cons_zero, List.set_cons_succ])
            refine wpAnyH_take (i := 13) (oi := { dst := some 144, op := Op.move (Operand.tmp 3), type := 44, pos := "law.go:59", after := #[{ on := 9, ground := Ground.guard }], guard := some (9, true) }) (v := ?_) rfl (by kernel_rfl) (by kernel_rfl) (by kernel_rfl) (fun _ _ _ h => h) (Or.inl ⟨by rfl, ?_⟩) (by assumption) ?_
            rotate_left
            · (intro wz hSw; (try dsimp only at hSw); go_simp; (try with_reducible rfl))
            (try simp only [Act.put, List.setIfInBounds_toArray, List.set_cons_zero, List.set_cons_succ])
            refine wpAnyH_ready (rs := [11]) (by kernel_rfl) (by simp) ?_
            refine AllReadyH.cons (o := { dst := some 142, op := Op.call { callee := Callee.value (Operand.func 11), args := #[Operand.tmp 141], argTypes := #[25] }, type := 37, pos := "law.go:59", after := #[{ on := 10, ground := Ground.data }, { on := 9, ground := Ground.chain }, { on := 9, ground := Ground.guard }], guard := some (9, true) }) rfl (fun K hK => ?_) AllReadyH.nil
            go_simp
            refine (ref_any [] CR _ _ (DC2.out.go Q4 (Ext.refl _ _)) (fun _ h => by cases h) (by rw [HCn.out]; omega)).mono ?_
            rintro e y5 ⟨a5, b5, rfl, i5, j5⟩
            have P5 : Kept y0 y5 := P4.trans j5
            have Q5 : Kept wc y5 := KX P5
            go_wp2_with fail
            refine hK.out _ _ ?_ (fun hHeld => ?_)
            · exact P5
            clear hK K
            (try simp only [Act.put, List.setIfInBounds_toArray, List.set_cons_zero, List.set_cons_succ])
            refine wpAnyH_ready (rs := [14]) (by kernel_rfl) (by simp) ?_
            refine AllReadyH.cons (o := { dst := some 145, op := Op.call { callee := Callee.value (Operand.func 20), args := #[Operand.tmp 143, Operand.tmp 144], argTypes := #[37, 44] }, type := 37, pos := "law.go:59", after := #[{ on := 12, ground := Ground.data }, { on := 13, ground := Ground.data }, { on := 11, ground := Ground.chain }, { on := 9, ground := Ground.guard }], guard := some (9, true) }) rfl (fun K hK => ?_) AllReadyH.nil
            go_simp
            refine (rcrash_any [] d keep _ _ _ (DX2.out.go Q5 (Ext.refl _ _)) (HU2.out.go Q5 (Ext.refl _ _)) (fun _ h => by cases h) (by omega)).mono ?_
            rintro e y6 ⟨a6, b6, rfl, i6, j6⟩
            have P6 : Kept y0 y6 := P5.trans j6
            have Q6 : Kept wc y6 := KX P6
            rw [HA2.out] at i6
            go_wp2_with fail
            refine hK.out _ _ ?_ (fun hHeld => ?_)
            · exact P6
            clear hK K
            (try simp only [Act.put, List.setIfInBounds_toArray, List.set_cons_zero, List.set_cons_succ])
            refine wpAnyH_ready (rs := [15]) (by kernel_rfl) (by simp) ?_
            refine AllReadyH.cons (o := { dst := some 146, op := Op.call { callee := Callee.value (Operand.func 18), args := #[Operand.tmp 142, Operand.tmp 145], argTypes := #[37, 37] }, type := 4, pos := "law.go:59", after := #[{ on := 11, ground := Ground.data }, { on := 14, ground := Ground.data }, { on := 14, ground := Ground.chain }, { on := 9, ground := Ground.guard }], guard := some (9, true) }) rfl (fun K hK => ?_) AllReadyH.nil
            go_simp
            refine (equal_any [] [] CR _ _ _ (i5.go j6 (Ext.refl _ _)) i6).mono ?_
            rintro e y7 ⟨rfl, j7⟩
            have P7 : Kept y0 y7 := P6.trans j7
            have Q7 : Kept wc y7 := KX P7
            go_wp2_with fail
            refine hK.out _ _ ?_ (fun hHeld => ?_)
            · exact P7
            clear hK K
            (try simp only [Act.put, List.setIfInBounds_toArray, List.set_cons_zero, List.set_cons_succ])
            refine wpAnyH_take (i := 16) (oi := { dst := some 147, op := Op.pick (Operand.tmp 140) (Operand.tmp 146) (Operand.const (Value.bool false)), type := 4, pos := "law.go:59", after := #[{ on := 9, ground := Ground.data }, { on := 15, ground := Ground.data }], guard := none }) (v := ?_) rfl (by kernel_rfl) (by kernel_rfl) (by kernel_rfl) (fun _ _ _ h => h) (Or.inl ⟨by rfl, ?_⟩) (by assumption) ?_
            rotate_left
            · (intro wz hSw; (try dsimp only at hSw); go_simp; (try with_reducible rfl))
            (try simp only [Act.put, List.setIfInBounds_toArray, List.set_cons_zero, List.set_cons_succ])
            refine wpAnyH_take (i := 17) (oi := { dst := some 148, op := Op.move (Operand.tmp 147), type := 4, pos := "law.go:59", after := #[{ on := 16, ground := Ground.data }, { on := 15, ground := Ground.chain }], guard := none }) (v := ?_) rfl (by kernel_rfl) (by kernel_rfl) (by kernel_rfl) (fun _ _ _ h => h) (Or.inl ⟨by rfl, ?_⟩) (by assumption) ?_
            rotate_left
            · (intro wz hSw; (try dsimp only at hSw); go_simp; (try with_reducible rfl))
            (try simp only [Act.put, List.setIfInBounds_toArray, List.set_cons_zero, List.set_cons_succ])
            refine wpAnyH_ready (rs := [18]) (by kernel_rfl) (by simp) ?_
            refine AllReadyH.cons (o := { dst := some 149, op := Op.call { callee := Callee.value (Operand.func 8), args := #[], argTypes := #[] }, type := 4, pos := "law.go:59", after := #[{ on := 17, ground := Ground.chain }, { on := 17, ground := Ground.guard }], guard := some (17, true) }) rfl (fun K hK => ?_) AllReadyH.nil
            go_simp
            refine (awake9 _).mono ?_
            rintro e y8 ⟨rfl, j8⟩
            have P8 : Kept y0 y8 := P7.trans j8
            have Q8 : Kept wc y8 := KX P8
            go_wp2_with fail
            refine hK.out _ _ ?_ (fun hHeld => ?_)
            · exact P8
            clear hK K
            (try simp only [Act.put, List.setIfInBounds_toArray, List.set_cons_zero, List.set_cons_succ])
            refine wpAnyH_take (i := 19) (oi := { dst := some 150, op := Op.pick (Operand.tmp 148) (Operand.tmp 149) (Operand.const (Value.bool false)), type := 4, pos := "law.go:59", after := #[{ on := 17, ground := Ground.data }, { on := 18, ground := Ground.data }], guard := none }) (v := ?_) rfl (by kernel_rfl) (by kernel_rfl) (by kernel_rfl) (fun _ _ _ h => h) (Or.inl ⟨by rfl, ?_⟩) (by assumption) ?_
            rotate_left
            · (intro wz hSw; (try dsimp only at hSw); go_simp; (try with_reducible rfl))
            (try simp only [Act.put, List.setIfInBounds_toArray, List.set_cons_zero, List.set_cons_succ])
            refine wpAnyH_take (i := 20) (oi := { dst := some 8, op := Op.assign (Operand.tmp 150), type := 4, pos := "law.go:59", after := #[{ on := 19, ground := Ground.data }, { on := 18, ground := Ground.chain }, { on := 0, ground := Ground.phase }, { on := 1, ground := Ground.phase }, { on := 2, ground := Ground.phase }, { on := 3, ground := Ground.phase }, { on := 4, ground := Ground.phase }, { on := 5, ground := Ground.phase }, { on := 6, ground := Ground.phase }, { on := 7, ground := Ground.phase }, { on := 8, ground := Ground.phase }, { on := 9, ground := Ground.phase }, { on := 10, ground := Ground.phase }, { on := 11, ground := Ground.phase }, { on := 12, ground := Ground.phase }, { on := 13, ground := Ground.phase }, { on := 14, ground := Ground.phase }, { on := 15, ground := Ground.phase }, { on := 16, ground := Ground.phase }, { on := 17, ground := Ground.phase }, { on := 18, ground := Ground.phase }, { on := 19, ground := Ground.phase }], guard := none }) (v := ?_) rfl (by kernel_rfl) (by kernel_rfl) (by kernel_rfl) (fun _ _ _ h => h) (Or.inl ⟨by rfl, ?_⟩) (by assumption) ?_
            rotate_left
            · (intro wz hSw; (try dsimp only at hSw); go_simp; (try with_reducible rfl))
            (try simp only [Act.put, List.setIfInBounds_toArray, List.set_cons_zero, List.set_cons_succ])
            refine wpAnyH_done (by kernel_rfl) ?_ _
            go_wp2
            go_ret
            exact ⟨rfl, hkwc.trans Q8⟩
          · have hb' : (d.sec.length : Int) ≤ at_ := by omega
            have HRD : readR d at_ = (.empty, 1) := by simp [readR, HR.out, hb]
            rw [HRD]
            clear HRD
            dsimp only
            have KX : ∀ {W'}, Kept wc W' → Kept wc W' := fun hk => hk
            go_wp2_with fail
            refine wp_region_held_drew (S := fun w' => Kept wc w') (by kernel_rfl) ((Kept.refl _).drew) (fun hHeld => ?_)
            refine wpAnyH_take (i := 0) (oi := { dst := some 131, op := Op.load 25 (Operand.tmp 14), type := 25, pos := "law.go:59", after := #[], guard := none }) (v := ?_) rfl (by kernel_rfl) (by kernel_rfl) (by kernel_rfl) (fun _ _ _ h => h) (Or.inl ⟨by rfl, ?_⟩) (by assumption) ?_
            rotate_left
            · (intro wz hSw; (try dsimp only at hSw); go_simp; (try with_reducible rfl))
            (try simp only [Act.put, List.setIfInBounds_toArray, List.set_cons_zero, List.set_cons_succ])
            refine wpAnyH_take (i := 2) (oi := { dst := some 133, op := Op.load 37 (Operand.tmp 9), type := 37, pos := "law.go:59", after := #[], guard := none }) (v := ?_) rfl (by kernel_rfl) (by kernel_rfl) (by kernel_rfl) (fun _ _ _ h => h) (Or.inl ⟨by rfl, ?_⟩) (by assumption) ?_
            rotate_left
            · (intro wz hSw; (try dsimp only at hSw); go_simp; (try with_reducible rfl))
            (try simp only [Act.put, List.setIfInBounds_toArray, List.set_cons_zero, List.set_cons_succ])
            refine wpAnyH_take (i := 3) (oi := { dst := some 134, op := Op.fieldAddr 37 (Operand.tmp 9) 1, type := 0, pos := "law.go:59", after := #[], guard := none }) (v := ?_) rfl (by kernel_rfl) (by kernel_rfl) (by kernel_rfl) (fun _ _ _ h => h) (Or.inl ⟨by rfl, ?_⟩) (by assumption) ?_
            rotate_left
            · (intro wz hSw; (try dsimp only at hSw); go_simp; (try with_reducible rfl))
            (try simp only [Act.put, List.setIfInBounds_toArray, List.set_cons_zero, List.set_cons_succ])
            refine wpAnyH_take (i := 4) (oi := { dst := some 135, op := Op.load 35 (Operand.tmp 134), type := 35, pos := "law.go:59", after := #[{ on := 3, ground := Ground.data }], guard := none }) (v := ?_) rfl (by kernel_rfl) (by kernel_rfl) (by kernel_rfl) (fun _ _ _ h => h) (Or.inl ⟨by rfl, ?_⟩) (by assumption) ?_
            rotate_left
            · (intro wz hSw; (try dsimp only at hSw); go_simp; (try with_reducible rfl))
            (try simp only [Act.put, List.setIfInBounds_toArray, List.set_cons_zero, List.set_cons_succ])
            refine wpAnyH_take (i := 5) (oi := { dst := some 136, op := Op.call { callee := Callee.builtin Builtin.len, args := #[Operand.tmp 135], argTypes := #[35] }, type := 3, pos := "law.go:59", after := #[{ on := 4, ground := Ground.data }], guard := none }) (v := ?_) rfl (by kernel_rfl) (by kernel_rfl) (by kernel_rfl) (fun _ _ _ h => h) (Or.inl ⟨by rfl, ?_⟩) (by assumption) ?_
            rotate_left
            · (intro wz hSw; (try dsimp only at hSw); go_simp; (try with_reducible rfl))
            (try simp only [Act.put, List.setIfInBounds_toArray, List.set_cons_zero, List.set_cons_succ])
            refine wpAnyH_ready (rs := [1]) (by kernel_rfl) (by simp) ?_
            refine AllReadyH.cons (o := { dst := some 132, op := Op.call { callee := Callee.value (Operand.func 11), args := #[Operand.tmp 131], argTypes := #[25] }, type := 37, pos := "law.go:59", after := #[{ on := 0, ground := Ground.data }], guard := none }) rfl (fun K hK => ?_) AllReadyH.nil
            go_simp
            refine (ref_any [] FL _ _ (DF2.out.go (KX (Kept.refl _).drew) (Ext.refl _ _)) (fun _ h => by cases h) (by rw [HFn.out]; omega)).mono ?_
            rintro e y1 ⟨a1, b1, rfl, i1, j1⟩
            have P1 : Kept wc y1 := (Kept.refl _).drew.trans j1
            have Q1 : Kept wc y1 := KX P1
            go_wp2_with fail
            refine hK.out _ _ ?_ (fun hHeld => ?_)
            · exact P1
            clear hK K
            (try simp only [Act.put, List.setIfInBounds_toArray, List.set_cons_zero, List.set_cons_succ])
            refine wpAnyH_ready (rs := [6]) (by kernel_rfl) (by simp) ?_
            refine AllReadyH.cons (o := { dst := some 137, op := Op.call { callee := Callee.value (Operand.func 21), args := #[Operand.tmp 136], argTypes := #[3] }, type := 44, pos := "law.go:59", after := #[{ on := 5, ground := Ground.data }, { on := 1, ground := Ground.chain }], guard := none }) rfl (fun K hK => ?_) AllReadyH.nil
            go_simp
            refine (all_any [] _ _ (fun _ h => by cases h) (by omega)).mono ?_
            rintro e y2 ⟨a2, b2, rfl, i2, j2⟩
            have P2 : Kept wc y2 := P1.trans j2
            have Q2 : Kept wc y2 := KX P2
            go_wp2_with fail
            refine hK.out _ _ ?_ (fun hHeld => ?_)
            · exact P2
            clear hK K
            (try simp only [Act.put, List.setIfInBounds_toArray, List.set_cons_zero, List.set_cons_succ])
            refine wpAnyH_ready (rs := [7]) (by kernel_rfl) (by simp) ?_
            refine AllReadyH.cons (o := { dst := some 138, op := Op.call { callee := Callee.value (Operand.func 20), args := #[Operand.tmp 133, Operand.tmp 137], argTypes := #[37, 44] }, type := 37, pos := "law.go:59", after := #[{ on := 2, ground := Ground.data }, { on := 6, ground := Ground.data }, { on := 6, ground := Ground.chain }], guard := none }) rfl (fun K hK => ?_) AllReadyH.nil
            go_simp
            refine (rcrash_any [] d (upTo d.cache.length) _ _ _ (DX2.out.go Q2 (Ext.refl _ _)) i2 (fun _ h => by cases h) (by omega)).mono ?_
            rintro e y3 ⟨a3, b3, rfl, i3, j3⟩
            have P3 : Kept wc y3 := P2.trans j3
            have Q3 : Kept wc y3 := KX P3
            rw [HA1.out] at i3
            go_wp2_with fail
            refine hK.out _ _ ?_ (fun hHeld => ?_)
            · exact P3
            clear hK K
            (try simp only [Act.put, List.setIfInBounds_toArray, List.set_cons_zero, List.set_cons_succ])
            refine wpAnyH_ready (rs := [8]) (by kernel_rfl) (by simp) ?_
            refine AllReadyH.cons (o := { dst := some 139, op := Op.call { callee := Callee.value (Operand.func 18), args := #[Operand.tmp 132, Operand.tmp 138], argTypes := #[37, 37] }, type := 4, pos := "law.go:59", after := #[{ on := 1, ground := Ground.data }, { on := 7, ground := Ground.data }, { on := 7, ground := Ground.chain }], guard := none }) rfl (fun K hK => ?_) AllReadyH.nil
            go_simp
            refine (equal_any [] [] FL _ _ _ (i1.go (j2.trans j3) (Ext.refl _ _)) i3).mono ?_
            rintro e y4 ⟨rfl, j4⟩
            have P4 : Kept wc y4 := P3.trans j4
            have Q4 : Kept wc y4 := KX P4
            go_wp2_with fail
            refine hK.out _ _ ?_ (fun hHeld => ?_)
            · exact P4
            clear hK K
            (try simp only [Act.put, List.setIfInBounds_toArray, List.set_cons_zero, List.set_cons_succ])
            refine wpAnyH_take (i := 9) (oi := { dst := some 140, op := Op.move (Operand.tmp 139), type := 4, pos := "law.go:59", after := #[{ on := 8, ground := Ground.data }, { on := 8, ground := Ground.chain }], guard := none }) (v := ?_) rfl (by kernel_rfl) (by kernel_rfl) (by kernel_rfl) (fun _ _ _ h => h) (Or.inl ⟨by rfl, ?_⟩) (by assumption) ?_
            rotate_left
            · (intro wz hSw; (try dsimp only at hSw); go_simp; (try with_reducible rfl))
            (try simp only [Act.put, List.setIfInBounds_toArray, List.set_cons_zero, List.set_cons_succ])
            refine wpAnyH_take (i := 10) (oi := { dst := some 141, op := Op.load 25 (Operand.tmp 15), type := 25, pos := "law.go:59", after := #[{ on := 9, ground := Ground.guard }], guard := some (9, true) }) (v := ?_) rfl (by kernel_rfl) (by kernel_rfl) (by kernel_rfl) (fun _ _ _ h => h) (Or.inl ⟨by rfl, ?_⟩) (by assumption) ?_
            rotate_left
            · (intro wz hSw; (try dsimp only at hSw); go_simp; (try with_reducible rfl))
            (try simp only [Act.put, List.setIfInBounds_toArray, List.set_cons_zero, List.set_cons_succ])
            refine wpAnyH_take (i := 12) (oi := { dst := some 143, op := Op.load 37 (Operand.tmp 9), type := 37, pos := "law.go:59", after := #[{ on := 9, ground := Ground.guard }], guard := some (9, true) }) (v := ?_) rfl (by kernel_rfl) (by kernel_rfl) (by kernel_rfl) (fun _ _ _ h => h) (Or.inl ⟨by rfl, ?_⟩) (by assumption) ?_
            rotate_left
            · (intro wz hSw; (try dsimp only at hSw); go_simp; (try with_reducible rfl))
            (try simp only [Act.put, List.setIfInBounds_toArray, List.set_cons_zero, List.set_cons_succ])
            refine wpAnyH_take (i := 13) (oi := { dst := some 144, op := Op.move (Operand.tmp 3), type := 44, pos := "law.go:59", after := #[{ on := 9, ground := Ground.guard }], guard := some (9, true) }) (v := ?_) rfl (by kernel_rfl) (by kernel_rfl) (by kernel_rfl) (fun _ _ _ h => h) (Or.inl ⟨by rfl, ?_⟩) (by assumption) ?_
            rotate_left
            · (intro wz hSw; (try dsimp only at hSw); go_simp; (try with_reducible rfl))
            (try simp only [Act.put, List.setIfInBounds_toArray, List.set_cons_zero, List.set_cons_succ])
            refine wpAnyH_ready (rs := [11]) (by kernel_rfl) (by simp) ?_
            refine AllReadyH.cons (o := { dst := some 142, op := Op.call { callee := Callee.value (Operand.func 11), args := #[Operand.tmp 141], argTypes := #[25] }, type := 37, pos := "law.go:59", after := #[{ on := 10, ground := Ground.data }, { on := 9, ground := Ground.chain }, { on := 9, ground := Ground.guard }], guard := some (9, true) }) rfl (fun K hK => ?_) AllReadyH.nil
            go_simp
            refine (ref_any [] CR _ _ (DC2.out.go Q4 (Ext.refl _ _)) (fun _ h => by cases h) (by rw [HCn.out]; omega)).mono ?_
            rintro e y5 ⟨a5, b5, rfl, i5, j5⟩
            have P5 : Kept wc y5 := P4.trans j5
            have Q5 : Kept wc y5 := KX P5
            go_wp2_with fail
            refine hK.out _ _ ?_ (fun hHeld => ?_)
            · exact P5
            clear hK K
            (try simp only [Act.put, List.setIfInBounds_toArray, List.set_cons_zero, List.set_cons_succ])
            refine wpAnyH_ready (rs := [14]) (by kernel_rfl) (by simp) ?_
            refine AllReadyH.cons (o := { dst := some 145, op := Op.call { callee := Callee.value (Operand.func 20), args := #[Operand.tmp 143, Operand.tmp 144], argTypes := #[37, 44] }, type := 37, pos := "law.go:59", after := #[{ on := 12, ground := Ground.data }, { on := 13, ground := Ground.data }, { on := 11, ground := Ground.chain }, { on := 9, ground := Ground.guard }], guard := some (9, true) }) rfl (fun K hK => ?_) AllReadyH.nil
            go_simp
            refine (rcrash_any [] d keep _ _ _ (DX2.out.go Q5 (Ext.refl _ _)) (HU2.out.go Q5 (Ext.refl _ _)) (fun _ h => by cases h) (by omega)).mono ?_
            rintro e y6 ⟨a6, b6, rfl, i6, j6⟩
            have P6 : Kept wc y6 := P5.trans j6
            have Q6 : Kept wc y6 := KX P6
            rw [HA2.out] at i6
            go_wp2_with fail
            refine hK.out _ _ ?_ (fun hHeld => ?_)
            · exact P6
            clear hK K
            (try simp only [Act.put, List.setIfInBounds_toArray, List.set_cons_zero, List.set_cons_succ])
            refine wpAnyH_ready (rs := [15]) (by kernel_rfl) (by simp) ?_
            refine AllReadyH.cons (o := { dst := some 146, op := Op.call { callee := Callee.value (Operand.func 18), args := #[Operand.tmp 142, Operand.tmp 145], argTypes := #[37, 37] }, type := 4, pos := "law.go:59", after := #[{ on := 11, ground := Ground.data }, { on := 14, ground := Ground.data }, { on := 14, ground := Ground.chain }, { on := 9, ground := Ground.guard }], guard := some (9, true) }) rfl (fun K hK => ?_) AllReadyH.nil
            go_simp
            refine (equal_any [] [] CR _ _ _ (i5.go j6 (Ext.refl _ _)) i6).mono ?_
            rintro e y7 ⟨rfl, j7⟩
            have P7 : Kept wc y7 := P6.trans j7
            have Q7 : Kept wc y7 := KX P7
            go_wp2_with fail
            refine hK.out _ _ ?_ (fun hHeld => ?_)
            · exact P7
            clear hK K
            (try simp only [Act.put, List.setIfInBounds_toArray, List.set_cons_zero, List.set_cons_succ])
            refine wpAnyH_take (i := 16) (oi := { dst := some 147, op := Op.pick (Operand.tmp 140) (Operand.tmp 146) (Operand.const (Value.bool false)), type := 4, pos := "law.go:59", after := #[{ on := 9, ground := Ground.data }, { on := 15, ground := Ground.data }], guard := none }) (v := ?_) rfl (by kernel_rfl) (by kernel_rfl) (by kernel_rfl) (fun _ _ _ h => h) (Or.inl ⟨by rfl, ?_⟩) (by assumption) ?_
            rotate_left
            · (intro wz hSw; (try dsimp only at hSw); go_simp; (try with_reducible rfl))
            (try simp only [Act.put, List.setIfInBounds_toArray, List.set_cons_zero, List.set_cons_succ])
            refine wpAnyH_take (i := 17) (oi := { dst := some 148, op := Op.move (Operand.tmp 147), type := 4, pos := "law.go:59", after := #[{ on := 16, ground := Ground.data }, { on := 15, ground := Ground.chain }], guard := none }) (v := ?_) rfl (by kernel_rfl) (by kernel_rfl) (by kernel_rfl) (fun _ _ _ h => h) (Or.inl ⟨by rfl, ?_⟩) (by assumption) ?_
            rotate_left
            · (intro wz hSw; (try dsimp only at hSw); go_simp; (try with_reducible rfl))
            (try simp only [Act.put, List.setIfInBounds_toArray, List.set_cons_zero, List.set_cons_succ])
            refine wpAnyH_ready (rs := [18]) (by kernel_rfl) (by simp) ?_
            refine AllReadyH.cons (o := { dst := some 149, op := Op.call { callee := Callee.value (Operand.func 8), args := #[], argTypes := #[] }, type := 4, pos := "law.go:59", after := #[{ on := 17, ground := Ground.chain }, { on := 17, ground := Ground.guard }], guard := some (17, true) }) rfl (fun K hK => ?_) AllReadyH.nil
            go_simp
            refine (awake9 _).mono ?_
            rintro e y8 ⟨rfl, j8⟩
            have P8 : Kept wc y8 := P7.trans j8
            have Q8 : Kept wc y8 := KX P8
            go_wp2_with fail
            refine hK.out _ _ ?_ (fun hHeld => ?_)
            · exact P8
            clear hK K
            (try simp only [Act.put, List.setIfInBounds_toArray, List.set_cons_zero, List.set_cons_succ])
            refine wpAnyH_take (i := 19) (oi := { dst := some 150, op := Op.pick (Operand.tmp 148) (Operand.tmp 149) (Operand.const (Value.bool false)), type := 4, pos := "law.go:59", after := #[{ on := 17, ground := Ground.data }, { on := 18, ground := Ground.data }], guard := none }) (v := ?_) rfl (by kernel_rfl) (by kernel_rfl) (by kernel_rfl) (fun _ _ _ h => h) (Or.inl ⟨by rfl, ?_⟩) (by assumption) ?_
            rotate_left
            · (intro wz hSw; (try dsimp only at hSw); go_simp; (try with_reducible rfl))
            (try simp only [Act.put, List.setIfInBounds_toArray, List.set_cons_zero, List.set_cons_succ])
            refine wpAnyH_take (i := 20) (oi := { dst := some 8, op := Op.assign (Operand.tmp 150), type := 4, pos := "law.go:59", after := #[{ on := 19, ground := Ground.data }, { on := 18, ground := Ground.chain }, { on := 0, ground := Ground.phase }, { on := 1, ground := Ground.phase }, { on := 2, ground := Ground.phase }, { on := 3, ground := Ground.phase }, { on := 4, ground := Ground.phase }, { on := 5, ground := Ground.phase }, { on := 6, ground := Ground.phase }, { on := 7, ground := Ground.phase }, { on := 8, ground := Ground.phase }, { on := 9, ground := Ground.phase }, { on := 10, ground := Ground.phase }, { on := 11, ground := Ground.phase }, { on := 12, ground := Ground.phase }, { on := 13, ground := Ground.phase }, { on := 14, ground := Ground.phase }, { on := 15, ground := Ground.phase }, { on := 16, ground := Ground.phase }, { on := 17, ground := Ground.phase }, { on := 18, ground := Ground.phase }, { on := 19, ground := Ground.phase }], guard := none }) (v := ?_) rfl (by kernel_rfl) (by kernel_rfl) (by kernel_rfl) (fun _ _ _ h => h) (Or.inl ⟨by rfl, ?_⟩) (by assumption) ?_
            rotate_left
            · (intro wz hSw; (try dsimp only at hSw); go_simp; (try with_reducible rfl))
            (try simp only [Act.put, List.setIfInBounds_toArray, List.set_cons_zero, List.set_cons_succ])
            refine wpAnyH_done (by kernel_rfl) ?_ _
            go_wp2
            go_ret
            exact ⟨rfl, hkwc.trans Q8⟩
        · have ha' : at_ < 0 := by omega
          have HRD : readR d at_ = (.empty, 1) := by simp [readR, HR.out, ha]
          rw [HRD]
          clear HRD
          dsimp only
          have KX : ∀ {W'}, Kept wc W' → Kept wc W' := fun hk => hk
          go_wp2_with fail
          refine wp_region_held_drew (S := fun w' => Kept wc w') (by kernel_rfl) ((Kept.refl _).drew) (fun hHeld => ?_)
          refine wpAnyH_take (i := 0) (oi := { dst := some 131, op := Op.load 25 (Operand.tmp 14), type := 25, pos := "law.go:59", after := #[], guard := none }) (v := ?_) rfl (by kernel_rfl) (by kernel_rfl) (by kernel_rfl) (fun _ _ _ h => h) (Or.inl ⟨by rfl, ?_⟩) (by assumption) ?_
          rotate_left
          · (intro wz hSw; (try dsimp only at hSw); go_simp; (try with_reducible rfl))
          (try simp only [Act.put, List.setIfInBounds_toArray, List.set_cons_zero, List.set_cons_succ])
          refine wpAnyH_take (i := 2) (oi := { dst := some 133, op := Op.load 37 (Operand.tmp 9), type := 37, pos := "law.go:59", after := #[], guard := none }) (v := ?_) rfl (by kernel_rfl) (by kernel_rfl) (by kernel_rfl) (fun _ _ _ h => h) (Or.inl ⟨by rfl, ?_⟩) (by assumption) ?_
          rotate_left
          · (intro wz hSw; (try dsimp only at hSw); go_simp; (try with_reducible rfl))
          (try simp only [Act.put, List.setIfInBounds_toArray, List.set_cons_zero, List.set_cons_succ])
          refine wpAnyH_take (i := 3) (oi := { dst := some 134, op := Op.fieldAddr 37 (Operand.tmp 9) 1, type := 0, pos := "law.go:59", after := #[], guard := none }) (v := ?_) rfl (by kernel_rfl) (by kernel_rfl) (by kernel_rfl) (fun _ _ _ h => h) (Or.inl ⟨by rfl, ?_⟩) (by assumption) ?_
          rotate_left
          · (intro wz hSw; (try dsimp only at hSw); go_simp; (try with_reducible rfl))
          (try simp only [Act.put, List.setIfInBounds_toArray, List.set_cons_zero, List.set_cons_succ])
          refine wpAnyH_take (i := 4) (oi := { dst := some 135, op := Op.load 35 (Operand.tmp 134), type := 35, pos := "law.go:59", after := #[{ on := 3, ground := Ground.data }], guard := none }) (v := ?_) rfl (by kernel_rfl) (by kernel_rfl) (by kernel_rfl) (fun _ _ _ h => h) (Or.inl ⟨by rfl, ?_⟩) (by assumption) ?_
          rotate_left
          · (intro wz hSw; (try dsimp only at hSw); go_simp; (try with_reducible rfl))
          (try simp only [Act.put, List.setIfInBounds_toArray, List.set_cons_zero, List.set_cons_succ])
          refine wpAnyH_take (i := 5) (oi := { dst := some 136, op := Op.call { callee := Callee.builtin Builtin.len, args := #[Operand.tmp 135], argTypes := #[35] }, type := 3, pos := "law.go:59", after := #[{ on := 4, ground := Ground.data }], guard := none }) (v := ?_) rfl (by kernel_rfl) (by kernel_rfl) (by kernel_rfl) (fun _ _ _ h => h) (Or.inl ⟨by rfl, ?_⟩) (by assumption) ?_
          rotate_left
          · (intro wz hSw; (try dsimp only at hSw); go_simp; (try with_reducible rfl))
          (try simp only [Act.put, List.setIfInBounds_toArray, List.set_cons_zero, List.set_cons_succ])
          refine wpAnyH_ready (rs := [1]) (by kernel_rfl) (by simp) ?_
          refine AllReadyH.cons (o := { dst := some 132, op := Op.call { callee := Callee.value (Operand.func 11), args := #[Operand.tmp 131], argTypes := #[25] }, type := 37, pos := "law.go:59", after := #[{ on := 0, ground := Ground.data }], guard := none }) rfl (fun K hK => ?_) AllReadyH.nil
          go_simp
          refine (ref_any [] FL _ _ (DF2.out.go (KX (Kept.refl _).drew) (Ext.refl _ _)) (fun _ h => by cases h) (by rw [HFn.out]; omega)).mono ?_
          rintro e y1 ⟨a1, b1, rfl, i1, j1⟩
          have P1 : Kept wc y1 := (Kept.refl _).drew.trans j1
          have Q1 : Kept wc y1 := KX P1
          go_wp2_with fail
          refine hK.out _ _ ?_ (fun hHeld => ?_)
          · exact P1
          clear hK K
          (try simp only [Act.put, List.setIfInBounds_toArray, List.set_cons_zero, List.set_cons_succ])
          refine wpAnyH_ready (rs := [6]) (by kernel_rfl) (by simp) ?_
          refine AllReadyH.cons (o := { dst := some 137, op := Op.call { callee := Callee.value (Operand.func 21), args := #[Operand.tmp 136], argTypes := #[3] }, type := 44, pos := "law.go:59", after := #[{ on := 5, ground := Ground.data }, { on := 1, ground := Ground.chain }], guard := none }) rfl (fun K hK => ?_) AllReadyH.nil
          go_simp
          refine (all_any [] _ _ (fun _ h => by cases h) (by omega)).mono ?_
          rintro e y2 ⟨a2, b2, rfl, i2, j2⟩
          have P2 : Kept wc y2 := P1.trans j2
          have Q2 : Kept wc y2 := KX P2
          go_wp2_with fail
          refine hK.out _ _ ?_ (fun hHeld => ?_)
          · exact P2
          clear hK K
          (try simp only [Act.put, List.setIfInBounds_toArray, List.set_cons_zero, List.set_cons_succ])
          refine wpAnyH_ready (rs := [7]) (by kernel_rfl) (by simp) ?_
          refine AllReadyH.cons (o := { dst := some 138, op := Op.call { callee := Callee.value (Operand.func 20), args := #[Operand.tmp 133, Operand.tmp 137], argTypes := #[37, 44] }, type := 37, pos := "law.go:59", after := #[{ on := 2, ground := Ground.data }, { on := 6, ground := Ground.data }, { on := 6, ground := Ground.chain }], guard := none }) rfl (fun K hK => ?_) AllReadyH.nil
          go_simp
          refine (rcrash_any [] d (upTo d.cache.length) _ _ _ (DX2.out.go Q2 (Ext.refl _ _)) i2 (fun _ h => by cases h) (by omega)).mono ?_
          rintro e y3 ⟨a3, b3, rfl, i3, j3⟩
          have P3 : Kept wc y3 := P2.trans j3
          have Q3 : Kept wc y3 := KX P3
          rw [HA1.out] at i3
          go_wp2_with fail
          refine hK.out _ _ ?_ (fun hHeld => ?_)
          · exact P3
          clear hK K
          (try simp only [Act.put, List.setIfInBounds_toArray, List.set_cons_zero, List.set_cons_succ])
          refine wpAnyH_ready (rs := [8]) (by kernel_rfl) (by simp) ?_
          refine AllReadyH.cons (o := { dst := some 139, op := Op.call { callee := Callee.value (Operand.func 18), args := #[Operand.tmp 132, Operand.tmp 138], argTypes := #[37, 37] }, type := 4, pos := "law.go:59", after := #[{ on := 1, ground := Ground.data }, { on := 7, ground := Ground.data }, { on := 7, ground := Ground.chain }], guard := none }) rfl (fun K hK => ?_) AllReadyH.nil
          go_simp
          refine (equal_any [] [] FL _ _ _ (i1.go (j2.trans j3) (Ext.refl _ _)) i3).mono ?_
          rintro e y4 ⟨rfl, j4⟩
          have P4 : Kept wc y4 := P3.trans j4
          have Q4 : Kept wc y4 := KX P4
          go_wp2_with fail
          refine hK.out _ _ ?_ (fun hHeld => ?_)
          · exact P4
          clear hK K
          (try simp only [Act.put, List.setIfInBounds_toArray, List.set_cons_zero, List.set_cons_succ])
          refine wpAnyH_take (i := 9) (oi := { dst := some 140, op := Op.move (Operand.tmp 139), type := 4, pos := "law.go:59", after := #[{ on := 8, ground := Ground.data }, { on := 8, ground := Ground.chain }], guard := none }) (v := ?_) rfl (by kernel_rfl) (by kernel_rfl) (by kernel_rfl) (fun _ _ _ h => h) (Or.inl ⟨by rfl, ?_⟩) (by assumption) ?_
          rotate_left
          · (intro wz hSw; (try dsimp only at hSw); go_simp; (try with_reducible rfl))
          (try simp only [Act.put, List.setIfInBounds_toArray, List.set_cons_zero, List.set_cons_succ])
          refine wpAnyH_take (i := 10) (oi := { dst := some 141, op := Op.load 25 (Operand.tmp 15), type := 25, pos := "law.go:59", after := #[{ on := 9, ground := Ground.guard }], guard := some (9, true) }) (v := ?_) rfl (by kernel_rfl) (by kernel_rfl) (by kernel_rfl) (fun _ _ _ h => h) (Or.inl ⟨by rfl, ?_⟩) (by assumption) ?_
          rotate_left
          · (intro wz hSw; (try dsimp only at hSw); go_simp; (try with_reducible rfl))
          (try simp only [Act.put, List.setIfInBounds_toArray, List.set_cons_zero, List.set_cons_succ])
          refine wpAnyH_take (i := 12) (oi := { dst := some 143, op := Op.load 37 (Operand.tmp 9), type := 37, pos := "law.go:59", after := #[{ on := 9, ground := Ground.guard }], guard := some (9, true) }) (v := ?_) rfl (by kernel_rfl) (by kernel_rfl) (by kernel_rfl) (fun _ _ _ h => h) (Or.inl ⟨by rfl, ?_⟩) (by assumption) ?_
          rotate_left
          · (intro wz hSw; (try dsimp only at hSw); go_simp; (try with_reducible rfl))
          (try simp only [Act.put, List.setIfInBounds_toArray, List.set_cons_zero, List.set_cons_succ])
          refine wpAnyH_take (i := 13) (oi := { dst := some 144, op := Op.move (Operand.tmp 3), type := 44, pos := "law.go:59", after := #[{ on := 9, ground := Ground.guard }], guard := some (9, true) }) (v := ?_) rfl (by kernel_rfl) (by kernel_rfl) (by kernel_rfl) (fun _ _ _ h => h) (Or.inl ⟨by rfl, ?_⟩) (by assumption) ?_
          rotate_left
          · (intro wz hSw; (try dsimp only at hSw); go_simp; (try with_reducible rfl))
          (try simp only [Act.put, List.setIfInBounds_toArray, List.set_cons_zero, List.set_cons_succ])
          refine wpAnyH_ready (rs := [11]) (by kernel_rfl) (by simp) ?_
          refine AllReadyH.cons (o := { dst := some 142, op := Op.call { callee := Callee.value (Operand.func 11), args := #[Operand.tmp 141], argTypes := #[25] }, type := 37, pos := "law.go:59", after := #[{ on := 10, ground := Ground.data }, { on := 9, ground := Ground.chain }, { on := 9, ground := Ground.guard }], guard := some (9, true) }) rfl (fun K hK => ?_) AllReadyH.nil
          go_simp
          refine (ref_any [] CR _ _ (DC2.out.go Q4 (Ext.refl _ _)) (fun _ h => by cases h) (by rw [HCn.out]; omega)).mono ?_
          rintro e y5 ⟨a5, b5, rfl, i5, j5⟩
          have P5 : Kept wc y5 := P4.trans j5
          have Q5 : Kept wc y5 := KX P5
          go_wp2_with fail
          refine hK.out _ _ ?_ (fun hHeld => ?_)
          · exact P5
          clear hK K
          (try simp only [Act.put, List.setIfInBounds_toArray, List.set_cons_zero, List.set_cons_succ])
          refine wpAnyH_ready (rs := [14]) (by kernel_rfl) (by simp) ?_
          refine AllReadyH.cons (o := { dst := some 145, op := Op.call { callee := Callee.value (Operand.func 20), args := #[Operand.tmp 143, Operand.tmp 144], argTypes := #[37, 44] }, type := 37, pos := "law.go:59", after := #[{ on := 12, ground := Ground.data }, { on := 13, ground := Ground.data }, { on := 11, ground := Ground.chain }, { on := 9, ground := Ground.guard }], guard := some (9, true) }) rfl (fun K hK => ?_) AllReadyH.nil
          go_simp
          refine (rcrash_any [] d keep _ _ _ (DX2.out.go Q5 (Ext.refl _ _)) (HU2.out.go Q5 (Ext.refl _ _)) (fun _ h => by cases h) (by omega)).mono ?_
          rintro e y6 ⟨a6, b6, rfl, i6, j6⟩
          have P6 : Kept wc y6 := P5.trans j6
          have Q6 : Kept wc y6 := KX P6
          rw [HA2.out] at i6
          go_wp2_with fail
          refine hK.out _ _ ?_ (fun hHeld => ?_)
          · exact P6
          clear hK K
          (try simp only [Act.put, List.setIfInBounds_toArray, List.set_cons_zero, List.set_cons_succ])
          refine wpAnyH_ready (rs := [15]) (by kernel_rfl) (by simp) ?_
          refine AllReadyH.cons (o := { dst := some 146, op := Op.call { callee := Callee.value (Operand.func 18), args := #[Operand.tmp 142, Operand.tmp 145], argTypes := #[37, 37] }, type := 4, pos := "law.go:59", after := #[{ on := 11, ground := Ground.data }, { on := 14, ground := Ground.data }, { on := 14, ground := Ground.chain }, { on := 9, ground := Ground.guard }], guard := some (9, true) }) rfl (fun K hK => ?_) AllReadyH.nil
          go_simp
          refine (equal_any [] [] CR _ _ _ (i5.go j6 (Ext.refl _ _)) i6).mono ?_
          rintro e y7 ⟨rfl, j7⟩
          have P7 : Kept wc y7 := P6.trans j7
          have Q7 : Kept wc y7 := KX P7
          go_wp2_with fail
          refine hK.out _ _ ?_ (fun hHeld => ?_)
          · exact P7
          clear hK K
          (try simp only [Act.put, List.setIfInBounds_toArray, List.set_cons_zero, List.set_cons_succ])
          refine wpAnyH_take (i := 16) (oi := { dst := some 147, op := Op.pick (Operand.tmp 140) (Operand.tmp 146) (Operand.const (Value.bool false)), type := 4, pos := "law.go:59", after := #[{ on := 9, ground := Ground.data }, { on := 15, ground := Ground.data }], guard := none }) (v := ?_) rfl (by kernel_rfl) (by kernel_rfl) (by kernel_rfl) (fun _ _ _ h => h) (Or.inl ⟨by rfl, ?_⟩) (by assumption) ?_
          rotate_left
          · (intro wz hSw; (try dsimp only at hSw); go_simp; (try with_reducible rfl))
          (try simp only [Act.put, List.setIfInBounds_toArray, List.set_cons_zero, List.set_cons_succ])
          refine wpAnyH_take (i := 17) (oi := { dst := some 148, op := Op.move (Operand.tmp 147), type := 4, pos := "law.go:59", after := #[{ on := 16, ground := Ground.data }, { on := 15, ground := Ground.chain }], guard := none }) (v := ?_) rfl (by kernel_rfl) (by kernel_rfl) (by kernel_rfl) (fun _ _ _ h => h) (Or.inl ⟨by rfl, ?_⟩) (by assumption) ?_
          rotate_left
          · (intro wz hSw; (try dsimp only at hSw); go_simp; (try with_reducible rfl))
          (try simp only [Act.put, List.setIfInBounds_toArray, List.set_cons_zero, List.set_cons_succ])
          refine wpAnyH_ready (rs := [18]) (by kernel_rfl) (by simp) ?_
          refine AllReadyH.cons (o := { dst := some 149, op := Op.call { callee := Callee.value (Operand.func 8), args := #[], argTypes := #[] }, type := 4, pos := "law.go:59", after := #[{ on := 17, ground := Ground.chain }, { on := 17, ground := Ground.guard }], guard := some (17, true) }) rfl (fun K hK => ?_) AllReadyH.nil
          go_simp
          refine (awake9 _).mono ?_
          rintro e y8 ⟨rfl, j8⟩
          have P8 : Kept wc y8 := P7.trans j8
          have Q8 : Kept wc y8 := KX P8
          go_wp2_with fail
          refine hK.out _ _ ?_ (fun hHeld => ?_)
          · exact P8
          clear hK K
          (try simp only [Act.put, List.setIfInBounds_toArray, List.set_cons_zero, List.set_cons_succ])
          refine wpAnyH_take (i := 19) (oi := { dst := some 150, op := Op.pick (Operand.tmp 148) (Operand.tmp 149) (Operand.const (Value.bool false)), type := 4, pos := "law.go:59", after := #[{ on := 17, ground := Ground.data }, { on := 18, ground := Ground.data }], guard := none }) (v := ?_) rfl (by kernel_rfl) (by kernel_rfl) (by kernel_rfl) (fun _ _ _ h => h) (Or.inl ⟨by rfl, ?_⟩) (by assumption) ?_
          rotate_left
          · (intro wz hSw; (try dsimp only at hSw); go_simp; (try with_reducible rfl))
          (try simp only [Act.put, List.setIfInBounds_toArray, List.set_cons_zero, List.set_cons_succ])
          refine wpAnyH_take (i := 20) (oi := { dst := some 8, op := Op.assign (Operand.tmp 150), type := 4, pos := "law.go:59", after := #[{ on := 19, ground := Ground.data }, { on := 18, ground := Ground.chain }, { on := 0, ground := Ground.phase }, { on := 1, ground := Ground.phase }, { on := 2, ground := Ground.phase }, { on := 3, ground := Ground.phase }, { on := 4, ground := Ground.phase }, { on := 5, ground := Ground.phase }, { on := 6, ground := Ground.phase }, { on := 7, ground := Ground.phase }, { on := 8, ground := Ground.phase }, { on := 9, ground := Ground.phase }, { on := 10, ground := Ground.phase }, { on := 11, ground := Ground.phase }, { on := 12, ground := Ground.phase }, { on := 13, ground := Ground.phase }, { on := 14, ground := Ground.phase }, { on := 15, ground := Ground.phase }, { on := 16, ground := Ground.phase }, { on := 17, ground := Ground.phase }, { on := 18, ground := Ground.phase }, { on := 19, ground := Ground.phase }], guard := none }) (v := ?_) rfl (by kernel_rfl) (by kernel_rfl) (by kernel_rfl) (fun _ _ _ h => h) (Or.inl ⟨by rfl, ?_⟩) (by assumption) ?_
          rotate_left
          · (intro wz hSw; (try dsimp only at hSw); go_simp; (try with_reducible rfl))
          (try simp only [Act.put, List.setIfInBounds_toArray, List.set_cons_zero, List.set_cons_succ])
          refine wpAnyH_done (by kernel_rfl) ?_ _
          go_wp2
          go_ret
          exact ⟨rfl, hkwc.trans Q8⟩
end Go.Proofs.Ytagpimahicgkmaa
