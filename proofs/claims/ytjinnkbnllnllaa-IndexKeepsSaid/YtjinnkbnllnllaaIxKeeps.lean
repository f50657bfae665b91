/- Walk: mailsacklaw15.IndexKeeps. -/
import Derived.Test.YtjinnkbnllnllaaIxOld
import Derived.Test.YtjinnkbnllnllaaIxDone
import Derived.Test.YtjinnkbnllnllaaL15Act
import Derived.Test.YtjinnkbnllnllaaLast
namespace Go.Proofs.Ytjinnkbnllnllaa
open Go.RowKit

theorem kind_lt (ak : Int) : 0 ≤ kindOf ak ∧ kindOf ak < 8 := by
  unfold kindOf
  have h : 0 ≤ IntKind.u64.wrap ak := by
    simp only [IntKind.wrap, IntKind.signed, IntKind.bits]
    simp
    omega
  exact ⟨Int.tmod_nonneg _ h, Int.tmod_lt_of_pos _ (by omega)⟩
theorem done_any (V : List Nat) (x : Ix) (v : Value) (ak an am : Int) (nm tn : ByteArray) (w : World) (hV : Old V w) (h : IxAt V w v x) (hok : IxOk x) (hns : nm.size ≤ maxLen) (hts : tn.size ≤ maxLen) (han : I64 an) :
    Calls Try.prog 30 #[v, .agg #[.int .i64 ak, .int .i64 an, .int .i64 am, .string nm, .string tn]] w (IxRet1 V (doneR x (kindOf ak).toNat an am nm tn) w) := by
  obtain ⟨h0, h8⟩ := kind_lt ak
  obtain ⟨k, hk⟩ := Int.eq_ofNat_of_zero_le h0
  rw [hk] at h8 ⊢
  rw [Int.toNat_natCast]
  match k, hk, h8 with
  | 0, hk, _ => exact done_0 V x v ak an am nm tn w hV h hok hns hts han hk
  | 1, hk, _ => exact done_1 V x v ak an am nm tn w hV h hok hns hts han hk
  | 2, hk, _ => exact done_2 V x v ak an am nm tn w hV h hok hns hts han hk
  | 3, hk, _ => exact done_3 V x v ak an am nm tn w hV h hok hns hts han hk
  | 4, hk, _ => exact done_4 V x v ak an am nm tn w hV h hok hns hts han hk
  | 5, hk, _ => exact done_5 V x v ak an am nm tn w hV h hok hns hts han hk
  | 6, hk, _ => exact done_6 V x v ak an am nm tn w hV h hok hns hts han hk
  | 7, hk, _ => exact done_7 V x v ak an am nm tn w hV h hok hns hts han hk
  | k + 8, _, h8 => exfalso; omega
structure Ac where
  k : Int
  n : Int
  m : Int
  nm : ByteArray
  tn : ByteArray
def acc (a : Ac) : List Value := [.int .i64 a.k, .int .i64 a.n, .int .i64 a.m, .string a.nm, .string a.tn]
def acs (l : List Ac) : List Value := l.flatMap acc
theorem acs_length (l : List Ac) : (acs l).length = l.length * 5 := by
  induction l with
  | nil => rfl
  | cons a l ih => rw [acs, List.flatMap_cons, List.length_append, ← acs, ih, List.length_cons]; simp [acc]; omega
theorem acs_at' (l : List Ac) (k j : Nat) (h : k < l.length) (hj : j < 5) : (acs l)[k * 5 + j]? = (acc l[k])[j]? := by
  induction l generalizing k with
  | nil => simp at h
  | cons a l ih =>
    rw [acs, List.flatMap_cons, ← acs]
    have hl : (acc a).length = 5 := rfl
    cases k with
    | zero => rw [List.getElem?_append_left (by omega)]; simp
    | succ k =>
      rw [List.getElem?_append_right (by omega), hl, show (k + 1) * 5 + j - 5 = k * 5 + j by omega, ih k (by simpa using h)]
      simp
theorem acs_at {l : List Ac} {k : Nat} (h : k < l.length) : (acs l)[k * 5]? = some (.int .i64 l[k].k) ∧ (acs l)[k * 5 + 1]? = some (.int .i64 l[k].n) ∧ (acs l)[k * 5 + 2]? = some (.int .i64 l[k].m) ∧ (acs l)[k * 5 + 3]? = some (.string l[k].nm) ∧ (acs l)[k * 5 + 4]? = some (.string l[k].tn) :=
  ⟨acs_at' l k 0 h (by omega), acs_at' l k 1 h (by omega), acs_at' l k 2 h (by omega), acs_at' l k 3 h (by omega), acs_at' l k 4 h (by omega)⟩
def AcsAt (w : World) (v : Value) (l : List Ac) : Prop :=
  ∃ A c, v = .slice A l.length c ∧ l.length ≤ c ∧ c ≤ maxLen ∧ Row [] w A (acs l)
def AcOk (a : Ac) : Prop := I64 a.n ∧ a.nm.size ≤ maxLen ∧ a.tn.size ≤ maxLen
theorem two_new {a b : Nat} {w : World} (hb : w.heap.size ≤ b) : Ext [a, b] w [a] := fun k hk => by
  rcases List.mem_cons.1 hk with rfl | hk
  · exact .inl (List.mem_singleton.2 rfl)
  · rw [List.mem_singleton.1 hk]; exact .inr hb
theorem ix1_good : Good ix1 := ⟨by decide +kernel, by unfold Vals; exact List.pairwise_singleton _ _⟩
theorem good_ok {x : Ix} (h : Good x) : IxOk x := right_ok h.right

set_option maxRecDepth 100000 in
set_option maxHeartbeats 8000000 in
theorem keeps_any (l : List Ac) (v : Value) (w : World) (h : AcsAt w v l) (hok : ∀ a ∈ l, AcOk a) :
    Calls Try.prog 7 #[v] w fun e w' => e = .returned (.bool true) ∧ Kept w w' := by
  obtain ⟨LA, lc, rfl, hl1, hl2, hrow⟩ := h
  have HROW := Lib.hid hrow
  have HOK := Lib.hid hok
  clear hrow hok
  unfold maxLen at hl2
  generalize hln : l.length = ln at *
  have HLN := Lib.hid hln
  clear hln
  go_enter Try.func7, Try.ntmps7
  go_wp2_with fail
  refine (new_any w).mono ?_
  rintro e w1 ⟨v1, rfl, hv1, hk1⟩
  obtain ⟨A1, c1, A1', c1', rfl⟩ := hv1.form
  have H1 := Lib.hid hv1
  clear hv1
  simp only [show ix1.boxes.length = 1 from rfl, show ix1.subs.length = 0 from rfl, show ix1.given = 2 from rfl] at H1 ⊢
  go_wp2
  go_loopw [4] (fun iv wr => ∃ i : Nat, i ≤ ln ∧ iv = .int .i64 i ∧ ∃ (x : Ix) (A : Option Addr) (n c : Nat) (A' : Option Addr) (m c' : Nat) (gv : Int), Own wr w1.heap.size 25 [.slice A n c, .slice A' m c', .int .i64 gv] ∧ IxAt [w1.heap.size] wr (.agg #[.slice A n c, .slice A' m c', .int .i64 gv]) x ∧ Good x ∧ Kept w wr) (fun iv _ => ln - (intOf iv).toNat)
  case atStart =>
    exact ⟨0, Nat.zero_le _, rfl, ix1, _, _, _, _, _, _, _, Own.new w1 _ [_, _, _], H1.out.go ((Kept.refl w1).alloc _) (fun k hk => .inr (by rw [List.mem_singleton.1 hk]; exact Nat.le_refl _)), ix1_good, hk1.alloc _⟩
  case round =>
    obtain ⟨i, hi, rfl, x, A, n, c, A', m, c', gv, ox, hx, hG, K⟩ := hrel
    have OX := Lib.hid ox
    have HX := Lib.hid hx
    have HGD := Lib.hid hG
    clear ox hx hG H1
    have zs := OX.out.lt
    have hgx := hk1.size
    generalize w1.heap.size = gX at *
    have hk1' := Lib.hid hk1
    clear hk1
    by_cases h40 : i < ln ∧ i < 40
    rotate_left
    · have hc : ¬ ((i : Int) < (ln : Int) ∧ (i : Int) < 40) := by omega
      by_cases hc1 : i < ln
      · have q1 : (i : Int) < (ln : Int) := by omega
        have q2 : ¬ (i : Int) < 40 := by omega
        go_wp2_with fail
        refine (awake_any _).mono ?_
        rintro e w1 ⟨rfl, hk⟩
        replace OX := Lib.hid (OX.out.kept hk)
        replace HX := Lib.hid (HX.out.go hk (Ext.refl _ _))
        replace K := K.trans hk
        clear hk
        go_wp2
        go_ret
        exact ⟨rfl, K⟩
      have q1 : ¬ (i : Int) < (ln : Int) := by omega
      go_wp2_with fail
      refine (awake_any _).mono ?_
      rintro e w1 ⟨rfl, hk⟩
      replace OX := Lib.hid (OX.out.kept hk)
      replace HX := Lib.hid (HX.out.go hk (Ext.refl _ _))
      replace K := K.trans hk
      clear hk
      go_wp2
      go_ret
      exact ⟨rfl, K⟩
    obtain ⟨hin, hi40⟩ := h40
    have q1 : (i : Int) < (ln : Int) := by omega
    have q2 : (i : Int) < 40 := by omega
    have q0 : (0 : Int) ≤ (i : Int) := by omega
    obtain ⟨lb, lo, rfl, hlb, _, hcs⟩ := HROW.out.kept K (by rw [acs_length, HLN.out]; omega)
    have hi' : i < l.length := by rw [HLN.out]; exact hin
    obtain ⟨g0, g1, g2, g3, g4⟩ := acs_at hi'
    replace g0 : wr.cell? ⟨lb, lo + i * 5, none⟩ = _ := hcs _ _ g0
    replace g1 : wr.cell? ⟨lb, lo + i * 5 + 1, none⟩ = _ := hcs _ _ g1
    replace g2 : wr.cell? ⟨lb, lo + i * 5 + 2, none⟩ = _ := hcs _ _ g2
    replace g3 : wr.cell? ⟨lb, lo + i * 5 + 3, none⟩ = _ := hcs _ _ g3
    replace g4 : wr.cell? ⟨lb, lo + i * 5 + 4, none⟩ = _ := hcs _ _ g4
    have HAO := Lib.hid (HOK.out l[i] (List.getElem_mem hi'))
    clear hcs
    generalize l[i] = ac at *
    obtain ⟨ak, an, am, nm, tn⟩ := ac
    have hns := HAO.out.2.1
    have hts := HAO.out.2.2
    unfold maxLen at hns hts
    simp only at g0 g1 g2 g3 g4 hns hts
    have HG0 := Lib.hid g0
    have HG1 := Lib.hid g1
    have HG2 := Lib.hid g2
    have HG3 := Lib.hid g3
    have HG4 := Lib.hid g4
    by_cases h100 : 100 < nm.size
    · have h100' : (100 : Int) < (nm.size : Int) := by omega
      go_wp2_with fail
      refine (awake_any _).mono ?_
      rintro e w1 ⟨rfl, hk⟩
      replace OX := Lib.hid (OX.out.kept hk)
      replace HX := Lib.hid (HX.out.go hk (Ext.refl _ _))
      replace K := K.trans hk
      clear hk
      go_wp2
      go_ret
      exact ⟨rfl, K⟩
    have h100' : ¬ (100 : Int) < (nm.size : Int) := by omega
    by_cases h101 : 100 < tn.size
    · have h101' : (100 : Int) < (tn.size : Int) := by omega
      go_wp2_with fail
      refine (awake_any _).mono ?_
      rintro e w1 ⟨rfl, hk⟩
      replace OX := Lib.hid (OX.out.kept hk)
      replace HX := Lib.hid (HX.out.go hk (Ext.refl _ _))
      replace K := K.trans hk
      clear hk
      go_wp2
      go_ret
      exact ⟨rfl, K⟩
    have h101' : ¬ (100 : Int) < (tn.size : Int) := by omega
    clear g0 g1 g2 g3 g4
    obtain ⟨HGY, HKP⟩ : Hid (Good (doneR x (kindOf ak).toNat an am nm tn)) ∧ Hid (Kp x (doneR x (kindOf ak).toNat an am nm tn)) := act_keeps (kindOf ak).toNat an am nm tn HGD.out
    generalize hy : doneR x (kindOf ak).toNat an am nm tn = y at *
    have HY := Lib.hid hy
    clear hy
    have g3 := HG3.out
    have g4 := HG4.out
    obtain ⟨cX0, cX1, cX2, fX0, fX1, fX2⟩ := OX.out.three
    go_upto_region 9 with fail
    clear cX0 cX1 cX2 fX0 fX1 fX2
    clear g3 g4
    go_cut [5] from 9 to 9 (fun pv wq => ∃ (gY : Nat) (A2 : Option Addr) (n2 c2 : Nat) (A3 : Option Addr) (n3 c3 : Nat) (gv2 : Int), pv = .pointer (some ⟨gY, 0, none⟩) ∧ gX ≠ gY ∧ Own wq gX 25 [.slice A n c, .slice A' m c', .int .i64 gv] ∧ Own wq gY 25 [.slice A2 n2 c2, .slice A3 n3 c3, .int .i64 gv2] ∧ IxAt [gX, gY] wq (.agg #[.slice A n c, .slice A' m c', .int .i64 gv]) x ∧ IxAt [gX, gY] wq (.agg #[.slice A2 n2 c2, .slice A3 n3 c3, .int .i64 gv2]) y ∧ Kept wr wq)
    case first =>
      have K9 := Kept.refl wr
      have CX0 : ∀ W', Kept wr W' → W'.cell? ⟨gX, 0, none⟩ = some (.slice A n c) := fun W' hk => (OX.out.kept hk).cell? 0
      have CX1 : ∀ W', Kept wr W' → W'.cell? ⟨gX, 1, none⟩ = some (.slice A' m c') := fun W' hk => (OX.out.kept hk).cell? 1
      have CX2 : ∀ W', Kept wr W' → W'.cell? ⟨gX, 2, none⟩ = some (.int .i64 gv) := fun W' hk => (OX.out.kept hk).cell? 2
      have D0 : ∀ W', Kept wr W' → W'.cell? ⟨lb, lo + i * 5, none⟩ = some (.int .i64 ak) := fun W' hk => (hk.cell (p := ⟨lb, lo + i * 5, none⟩) hlb).trans HG0.out
      have D1 : ∀ W', Kept wr W' → W'.cell? ⟨lb, lo + i * 5 + 1, none⟩ = some (.int .i64 an) := fun W' hk => (hk.cell (p := ⟨lb, lo + i * 5 + 1, none⟩) hlb).trans HG1.out
      have D2 : ∀ W', Kept wr W' → W'.cell? ⟨lb, lo + i * 5 + 2, none⟩ = some (.int .i64 am) := fun W' hk => (hk.cell (p := ⟨lb, lo + i * 5 + 2, none⟩) hlb).trans HG2.out
      have D3 : ∀ W', Kept wr W' → W'.cell? ⟨lb, lo + i * 5 + 3, none⟩ = some (.string nm) := fun W' hk => (hk.cell (p := ⟨lb, lo + i * 5 + 3, none⟩) hlb).trans HG3.out
      have D4 : ∀ W', Kept wr W' → W'.cell? ⟨lb, lo + i * 5 + 4, none⟩ = some (.string tn) := fun W' hk => (hk.cell (p := ⟨lb, lo + i * 5 + 4, none⟩) hlb).trans HG4.out
      refine wp_region_Z (S := fun W' => Kept wr W') (Z := [7]) (by kernel_rfl) ((Kept.refl _).drew) (fun hHeld => ?_)
      have kr := (Kept.refl wr).drew
      have K9r := K9
      have zr := K9.size
      have OXr := OX
      have HXr := HX
      replace OX := Lib.hid (OXr.out.kept kr)
      replace HX := Lib.hid (HXr.out.go kr (Ext.refl _ _))
      replace K9 := K9r.trans kr
      generalize wr.drew = w1 at *
      refine wpAnyZ_take (i := 0) (oi := { dst := some 42, op := Op.load 25 (Operand.tmp 3), type := 25, pos := "law.go:144", after := #[], guard := none }) (v := ?_) rfl (by kernel_rfl) (fun _ _ _ h => h) (Or.inl ⟨by rfl, ?_⟩) (by assumption) ?_
      rotate_left
      · (intro wz hSw; (try dsimp only at hSw); go_simp; (try with_reducible rfl))
      (try simp only [Act.put, List.setIfInBounds_toArray, List.set_cons_zero, List.set_cons_succ])
      refine wpAnyZ_take (i := 1) (oi := { dst := some 43, op := Op.move (Operand.tmp 0), type := 65, pos := "law.go:144", after := #[], guard := none }) (v := ?_) rfl (by kernel_rfl) (fun _ _ _ h => h) (Or.inl ⟨by rfl, ?_⟩) (by assumption) ?_
      rotate_left
      · (intro wz hSw; (try dsimp only at hSw); go_simp; (try with_reducible rfl))
      (try simp only [Act.put, List.setIfInBounds_toArray, List.set_cons_zero, List.set_cons_succ])
      refine wpAnyZ_take (i := 2) (oi := { dst := some 44, op := Op.move (Operand.tmp 4), type := 3, pos := "law.go:144", after := #[], guard := none }) (v := ?_) rfl (by kernel_rfl) (fun _ _ _ h => h) (Or.inl ⟨by rfl, ?_⟩) (by assumption) ?_
      rotate_left
      · (intro wz hSw; (try dsimp only at hSw); go_simp; (try with_reducible rfl))
      (try simp only [Act.put, List.setIfInBounds_toArray, List.set_cons_zero, List.set_cons_succ])
      refine wpAnyZ_take (i := 3) (oi := { dst := some 45, op := Op.indexAddr 65 (Operand.tmp 43) (Operand.tmp 44), type := 0, pos := "law.go:144", after := #[{ on := 1, ground := Ground.data }, { on := 2, ground := Ground.data }], guard := none }) (v := ?_) rfl (by kernel_rfl) (fun _ _ _ h => h) (Or.inl ⟨by rfl, ?_⟩) (by assumption) ?_
      rotate_left
      · (intro wz hSw; (try dsimp only at hSw); go_simp; (try with_reducible rfl))
      (try simp only [Act.put, List.setIfInBounds_toArray, List.set_cons_zero, List.set_cons_succ])
      refine wpAnyZ_take (i := 4) (oi := { dst := some 46, op := Op.load 68 (Operand.tmp 45), type := 68, pos := "law.go:144", after := #[{ on := 3, ground := Ground.data }], guard := none }) (v := ?_) rfl (by kernel_rfl) (fun _ _ _ h => h) (Or.inl ⟨by rfl, ?_⟩) (by assumption) ?_
      rotate_left
      · (intro wz hSw; (try dsimp only at hSw); go_simp; (try with_reducible rfl))
      (try simp only [Act.put, List.setIfInBounds_toArray, List.set_cons_zero, List.set_cons_succ])
      refine wpAnyZ_ready (rs := [5, 6]) (by kernel_rfl) (by simp) ?_
      refine AllReadyZ.cons (o := { dst := some 47, op := Op.call { callee := Callee.value (Operand.func 30), args := #[Operand.tmp 42, Operand.tmp 46], argTypes := #[25, 68] }, type := 25, pos := "law.go:144", after := #[{ on := 0, ground := Ground.data }, { on := 4, ground := Ground.data }], guard := none }) rfl (fun KK hKK => ?_) ?_
      · skip
        go_simp
        refine (done_any [gX] x _ ak an am nm tn w1 (Old.cons OX.out.lt (fun _ hk => by cases hk)) HX.out (good_ok HGD.out) HAO.out.2.1 HAO.out.2.2 HAO.out.1).mono ?_
        rintro e w2 ⟨v2, rfl, hx2, hk⟩
        clear hHeld
        replace kr := kr.trans hk
        replace OX := Lib.hid (OXr.out.kept kr)
        replace HX := Lib.hid (HXr.out.go kr (Ext.refl _ _))
        replace K9 := K9r.trans kr
        rw [HY.out] at hx2
        have HX2 := Lib.hid hx2
        obtain ⟨A2, c2, A3, c3, rfl⟩ := hx2.form
        clear hx2
        generalize y.boxes.length = n2 at HX2 ⊢
        generalize y.subs.length = n3 at HX2 ⊢
        generalize y.given = gv2 at HX2 ⊢
        clear hk
        go_wp2_with fail
        refine hKK.out _ _ ?_ (fun hHeld => ?_)
        · exact kr
        clear hKK KK
        (try simp only [Act.put, List.setIfInBounds_toArray, List.set_cons_zero, List.set_cons_succ])
        refine wpAnyZ_ready (rs := [6]) (by kernel_rfl) (by simp) ?_
        refine AllReadyZ.cons (o := { dst := some 5, op := Op.alloc 25, type := 0, pos := "law.go:144", after := #[], guard := none }) rfl (fun KK hKK => ?_) AllReadyZ.nil
        have hbY : wr.heap.size ≤ w2.heap.size := kr.size
        have hne : gX ≠ w2.heap.size := by have := OX.out.lt; omega
        have HXY : Hid (IxAt [gX, w2.heap.size] (w2.alloc (.cells #[.slice none 0 0, .slice none 0 0, .int .i64 0] 25)) (.agg #[.slice A n c, .slice A' m c', .int .i64 gv]) x) := HX.out.go ((Kept.refl _).alloc _) (two_new (Nat.le_refl _))
        replace HX2 : Hid (IxAt [gX, w2.heap.size] (w2.alloc (.cells #[.slice none 0 0, .slice none 0 0, .int .i64 0] 25)) (.agg #[.slice A2 n2 c2, .slice A3 n3 c3, .int .i64 gv2]) y) := HX2.out.go ((Kept.refl _).alloc _) (two_new (Nat.le_refl _))
        go_simp
        replace kr := kr.alloc (.cells #[.slice none 0 0, .slice none 0 0, .int .i64 0] 25)
        clear hHeld
        have OY := Lib.hid (Own.new w2 25 [.slice none 0 0, .slice none 0 0, .int .i64 0])
        replace OX := Lib.hid (OXr.out.kept kr)
        replace HX := Lib.hid (HXr.out.go kr (Ext.refl _ _))
        replace K9 := K9r.trans kr
        generalize (w2.alloc (.cells #[.slice none 0 0, .slice none 0 0, .int .i64 0] 25)) = w3 at *
        generalize w2.heap.size = bY at *
        refine hKK.out _ _ ?_ (fun hHeld => ?_)
        · exact kr
        clear hKK KK
        (try simp only [Act.put, List.setIfInBounds_toArray, List.set_cons_zero, List.set_cons_succ])
        refine wpAnyZ_ready (rs := [7]) (by kernel_rfl) (by simp) ?_
        refine AllReadyZ.late (o := { dst := none, op := Op.store 25 (Operand.tmp 5) (Operand.tmp 47), type := 0, pos := "law.go:144", after := #[{ on := 6, ground := Ground.data }, { on := 5, ground := Ground.data }, { on := 5, ground := Ground.chain }, { on := 0, ground := Ground.phase }, { on := 1, ground := Ground.phase }, { on := 2, ground := Ground.phase }, { on := 3, ground := Ground.phase }, { on := 4, ground := Ground.phase }, { on := 5, ground := Ground.phase }, { on := 6, ground := Ground.phase }], guard := none }) rfl (by simp) (fun KK hKK => ?_) AllReadyZ.nil
        obtain ⟨cY0, cY1, cY2, fY0, fY1, fY2⟩ := OY.out.three
        go_simp
        clear cY0 cY1 cY2 fY0 fY1 fY2
        replace OX : Hid (Own (((w3.setCell ⟨bY, 0, none⟩ (.slice A2 n2 c2)).setCell ⟨bY, 1, none⟩ (.slice A3 n3 c3)).setCell ⟨bY, 2, none⟩ (.int .i64 gv2)) gX 25 [.slice A n c, .slice A' m c', .int .i64 gv]) := Lib.hid (((OX.out.far (p := ⟨bY, 0, none⟩) (by first | omega | (simp; omega) | simp) (.slice A2 n2 c2)).far (p := ⟨bY, 1, none⟩) (by first | omega | (simp; omega) | simp) (.slice A3 n3 c3)).far (p := ⟨bY, 2, none⟩) (by first | omega | (simp; omega) | simp) (.int .i64 gv2))
        replace OY : Hid (Own (((w3.setCell ⟨bY, 0, none⟩ (.slice A2 n2 c2)).setCell ⟨bY, 1, none⟩ (.slice A3 n3 c3)).setCell ⟨bY, 2, none⟩ (.int .i64 gv2)) bY 25 [.slice A2 n2 c2, .slice A3 n3 c3, .int .i64 gv2]) := Lib.hid (((OY.out.set_ 0 (.slice A2 n2 c2)).set_ 1 (.slice A3 n3 c3)).set_ 2 (.int .i64 gv2))
        replace HXY := Lib.hid (((HXY.out.put (p := ⟨bY, 0, none⟩) (by simp) (.slice A2 n2 c2)).put (p := ⟨bY, 1, none⟩) (by simp) (.slice A3 n3 c3)).put (p := ⟨bY, 2, none⟩) (by simp) (.int .i64 gv2))
        replace HX2 := Lib.hid (((HX2.out.put (p := ⟨bY, 0, none⟩) (by simp) (.slice A2 n2 c2)).put (p := ⟨bY, 1, none⟩) (by simp) (.slice A3 n3 c3)).put (p := ⟨bY, 2, none⟩) (by simp) (.int .i64 gv2))
        replace K9 := (((K9.setCell (p := ⟨bY, 0, none⟩) (by first | exact Nat.le_refl _ | (simp only []; omega) | simp) (.slice A2 n2 c2)).setCell (p := ⟨bY, 1, none⟩) (by first | exact Nat.le_refl _ | (simp only []; omega) | simp) (.slice A3 n3 c3)).setCell (p := ⟨bY, 2, none⟩) (by first | exact Nat.le_refl _ | (simp only []; omega) | simp) (.int .i64 gv2))
        generalize (((w3.setCell ⟨bY, 0, none⟩ (.slice A2 n2 c2)).setCell ⟨bY, 1, none⟩ (.slice A3 n3 c3)).setCell ⟨bY, 2, none⟩ (.int .i64 gv2)) = w4 at *
        refine hKK.out _ _ ?_
        clear hKK KK
        (try simp only [Act.put, List.setIfInBounds_toArray, List.set_cons_zero, List.set_cons_succ])
        refine wpAnyZ_done (by kernel_rfl) ?_ _
        clear CX0 CX1 CX2 D0 D1 D2 D3 D4 OXr HXr K9r zr hHeld kr
        go_wp2_with fail
        go_meet
        exact ⟨bY, A2, n2, c2, A3, n3, c3, gv2, rfl, hne, OX.out, OY.out, HXY.out, HX2.out, K9⟩
      refine AllReadyZ.cons (o := { dst := some 5, op := Op.alloc 25, type := 0, pos := "law.go:144", after := #[], guard := none }) rfl (fun KK hKK => ?_) AllReadyZ.nil
      have hbY : wr.heap.size ≤ w1.heap.size := kr.size
      have hne : gX ≠ w1.heap.size := by have := OX.out.lt; omega
      have HXY : Hid (IxAt [gX, w1.heap.size] (w1.alloc (.cells #[.slice none 0 0, .slice none 0 0, .int .i64 0] 25)) (.agg #[.slice A n c, .slice A' m c', .int .i64 gv]) x) := HX.out.go ((Kept.refl _).alloc _) (two_new (Nat.le_refl _))
      go_simp
      replace kr := kr.alloc (.cells #[.slice none 0 0, .slice none 0 0, .int .i64 0] 25)
      clear hHeld
      have OY := Lib.hid (Own.new w1 25 [.slice none 0 0, .slice none 0 0, .int .i64 0])
      replace OX := Lib.hid (OXr.out.kept kr)
      replace HX := Lib.hid (HXr.out.go kr (Ext.refl _ _))
      replace K9 := K9r.trans kr
      generalize (w1.alloc (.cells #[.slice none 0 0, .slice none 0 0, .int .i64 0] 25)) = w2 at *
      generalize w1.heap.size = bY at *
      refine hKK.out _ _ ?_ (fun hHeld => ?_)
      · exact kr
      clear hKK KK
      (try simp only [Act.put, List.setIfInBounds_toArray, List.set_cons_zero, List.set_cons_succ])
      refine wpAnyZ_ready (rs := [5]) (by kernel_rfl) (by simp) ?_
      refine AllReadyZ.cons (o := { dst := some 47, op := Op.call { callee := Callee.value (Operand.func 30), args := #[Operand.tmp 42, Operand.tmp 46], argTypes := #[25, 68] }, type := 25, pos := "law.go:144", after := #[{ on := 0, ground := Ground.data }, { on := 4, ground := Ground.data }], guard := none }) rfl (fun KK hKK => ?_) AllReadyZ.nil
      go_simp
      refine (done_any [gX, bY] x _ ak an am nm tn w2 (Old.cons OX.out.lt (Old.cons OY.out.lt (fun _ hk => by cases hk))) HXY.out (good_ok HGD.out) HAO.out.2.1 HAO.out.2.2 HAO.out.1).mono ?_
      rintro e w3 ⟨v2, rfl, hx2, hk⟩
      clear hHeld
      replace kr := kr.trans hk
      replace OX := Lib.hid (OXr.out.kept kr)
      replace K9 := K9r.trans kr
      rw [HY.out] at hx2
      have HX2 := Lib.hid hx2
      obtain ⟨A2, c2, A3, c3, rfl⟩ := hx2.form
      clear hx2
      replace HXY := Lib.hid (HXY.out.go hk (Ext.refl _ _))
      replace OY := Lib.hid (OY.out.kept hk)
      generalize y.boxes.length = n2 at HX2 ⊢
      generalize y.subs.length = n3 at HX2 ⊢
      generalize y.given = gv2 at HX2 ⊢
      clear hk
      go_wp2_with fail
      refine hKK.out _ _ ?_ (fun hHeld => ?_)
      · exact kr
      clear hKK KK
      (try simp only [Act.put, List.setIfInBounds_toArray, List.set_cons_zero, List.set_cons_succ])
      refine wpAnyZ_ready (rs := [7]) (by kernel_rfl) (by simp) ?_
      refine AllReadyZ.late (o := { dst := none, op := Op.store 25 (Operand.tmp 5) (Operand.tmp 47), type := 0, pos := "law.go:144", after := #[{ on := 6, ground := Ground.data }, { on := 5, ground := Ground.data }, { on := 5, ground := Ground.chain }, { on := 0, ground := Ground.phase }, { on := 1, ground := Ground.phase }, { on := 2, ground := Ground.phase }, { on := 3, ground := Ground.phase }, { on := 4, ground := Ground.phase }, { on := 5, ground := Ground.phase }, { on := 6, ground := Ground.phase }], guard := none }) rfl (by simp) (fun KK hKK => ?_) AllReadyZ.nil
      obtain ⟨cY0, cY1, cY2, fY0, fY1, fY2⟩ := OY.out.three
      go_simp
      clear cY0 cY1 cY2 fY0 fY1 fY2
      replace OX : Hid (Own (((w3.setCell ⟨bY, 0, none⟩ (.slice A2 n2 c2)).setCell ⟨bY, 1, none⟩ (.slice A3 n3 c3)).setCell ⟨bY, 2, none⟩ (.int .i64 gv2)) gX 25 [.slice A n c, .slice A' m c', .int .i64 gv]) := Lib.hid (((OX.out.far (p := ⟨bY, 0, none⟩) (by first | omega | (simp; omega) | simp) (.slice A2 n2 c2)).far (p := ⟨bY, 1, none⟩) (by first | omega | (simp; omega) | simp) (.slice A3 n3 c3)).far (p := ⟨bY, 2, none⟩) (by first | omega | (simp; omega) | simp) (.int .i64 gv2))
      replace OY : Hid (Own (((w3.setCell ⟨bY, 0, none⟩ (.slice A2 n2 c2)).setCell ⟨bY, 1, none⟩ (.slice A3 n3 c3)).setCell ⟨bY, 2, none⟩ (.int .i64 gv2)) bY 25 [.slice A2 n2 c2, .slice A3 n3 c3, .int .i64 gv2]) := Lib.hid (((OY.out.set_ 0 (.slice A2 n2 c2)).set_ 1 (.slice A3 n3 c3)).set_ 2 (.int .i64 gv2))
      replace HXY := Lib.hid (((HXY.out.put (p := ⟨bY, 0, none⟩) (by simp) (.slice A2 n2 c2)).put (p := ⟨bY, 1, none⟩) (by simp) (.slice A3 n3 c3)).put (p := ⟨bY, 2, none⟩) (by simp) (.int .i64 gv2))
      replace HX2 := Lib.hid (((HX2.out.put (p := ⟨bY, 0, none⟩) (by simp) (.slice A2 n2 c2)).put (p := ⟨bY, 1, none⟩) (by simp) (.slice A3 n3 c3)).put (p := ⟨bY, 2, none⟩) (by simp) (.int .i64 gv2))
      replace K9 := (((K9.setCell (p := ⟨bY, 0, none⟩) (by first | exact Nat.le_refl _ | (simp only []; omega) | simp) (.slice A2 n2 c2)).setCell (p := ⟨bY, 1, none⟩) (by first | exact Nat.le_refl _ | (simp only []; omega) | simp) (.slice A3 n3 c3)).setCell (p := ⟨bY, 2, none⟩) (by first | exact Nat.le_refl _ | (simp only []; omega) | simp) (.int .i64 gv2))
      generalize (((w3.setCell ⟨bY, 0, none⟩ (.slice A2 n2 c2)).setCell ⟨bY, 1, none⟩ (.slice A3 n3 c3)).setCell ⟨bY, 2, none⟩ (.int .i64 gv2)) = w4 at *
      refine hKK.out _ _ ?_
      clear hKK KK
      (try simp only [Act.put, List.setIfInBounds_toArray, List.set_cons_zero, List.set_cons_succ])
      refine wpAnyZ_done (by kernel_rfl) ?_ _
      clear CX0 CX1 CX2 D0 D1 D2 D3 D4 OXr HXr K9r zr hHeld kr
      go_wp2_with fail
      go_meet
      exact ⟨bY, A2, n2, c2, A3, n3, c3, gv2, rfl, hne, OX.out, OY.out, HXY.out, HX2.out, K9⟩
    case rest =>
      obtain ⟨gY, A2, n2, c2, A3, n3, c3, gv2, rfl, hne, ox, oy, hx, hx2, kw⟩ := hcut
      clear HX OX
      have OX := Lib.hid ox
      have OY := Lib.hid oy
      have HX := Lib.hid hx
      have HX2 := Lib.hid hx2
      replace K := K.trans kw
      clear ox oy hx hx2 kw
      have hgle : ¬ gv2 < gv := by
        have h1 := HX.out.parts.1
        have h2 := HX2.out.parts.1
        have h3 := HKP.out.1
        omega
      obtain ⟨cX0, cX1, cX2, fX0, fX1, fX2⟩ := OX.out.three
      obtain ⟨cY0, cY1, cY2, fY0, fY1, fY2⟩ := OY.out.three
      go_wp2_with fail
      refine (right_any y _ _ (HX2.out.go (Kept.refl _) (Ext.nil _ _)) (good_ok HGY.out)).mono ?_
      rintro e wr1 ⟨rfl, hk⟩
      clear cX0 cX1 cX2 fX0 fX1 fX2 cY0 cY1 cY2 fY0 fY1 fY2
      replace OX := Lib.hid (OX.out.kept hk)
      replace OY := Lib.hid (OY.out.kept hk)
      replace HX := Lib.hid (HX.out.go hk (Ext.refl _ _))
      replace HX2 := Lib.hid (HX2.out.go hk (Ext.refl _ _))
      replace K := K.trans hk
      rw [HGY.out.right]
      clear hk
      obtain ⟨cX0, cX1, cX2, fX0, fX1, fX2⟩ := OX.out.three
      obtain ⟨cY0, cY1, cY2, fY0, fY1, fY2⟩ := OY.out.three
      go_wp2
      obtain ⟨_, _, e, hc1X, hc2X, hbx⟩ := HX.out.parts.2.1.open_
      cases e
      have HBXX := Lib.hid hbx
      have h6X := (right_len HGD.out.right).2.1
      clear hbx
      unfold maxLen at hc2X
      generalize hn : x.boxes.length = n at *
      have HNX := Lib.hid hn
      clear hn
      obtain ⟨_, _, e, hc1Y, hc2Y, hbx⟩ := HX2.out.parts.2.1.open_
      cases e
      have HBXY := Lib.hid hbx
      have h6Y := (right_len HGY.out.right).2.1
      clear hbx
      unfold maxLen at hc2Y
      generalize hn : y.boxes.length = n2 at *
      have HNY := Lib.hid hn
      clear hn
      have zK := K.size
      skip
      clear cX0 cX1 cX2 fX0 fX1 fX2 cY0 cY1 cY2 fY0 fY1 fY2
      go_loopw [61] (fun iv wq => ∃ j : Nat, j ≤ n ∧ iv = .int .i64 j ∧ Own wq gX 25 [.slice A n c, .slice A' m c', .int .i64 gv] ∧ Own wq gY 25 [.slice A2 n2 c2, .slice A3 n3 c3, .int .i64 gv2] ∧ Kept wr1 wq) (fun iv _ => n - (intOf iv).toNat)
      case atStart => exact ⟨0, Nat.zero_le _, rfl, OX.out, OY.out, Kept.refl _⟩
      case round =>
        obtain ⟨j, hj, rfl, ox, oy, kq⟩ := hrel
        have OX' := Lib.hid ox
        have OY' := Lib.hid oy
        obtain ⟨x0, x1, x2, _, _, _⟩ := ox.three
        obtain ⟨y0, y1, y2, _, _, _⟩ := oy.three
        clear ox oy
        obtain ⟨wo, hwo⟩ : ∃ z, z = wr := ⟨_, rfl⟩
        subst hwo
        by_cases hjl : j < n
        · obtain ⟨b, o, mv, rfl, hb, _, hbc⟩ := HBXX.out (by omega)
          have hj' : j < x.boxes.length := by rw [HNX.out]; exact hjl
          obtain ⟨p1, p2, p3, p4, pm⟩ := hbc.go hb kq (Ext.nil _ _) j hj'
          obtain ⟨MA, mc, hmv⟩ := pm.form
          rw [hmv] at p4 pm
          have HPM := Lib.hid pm
          have HKB := Lib.hid (HKP.out.2 x.boxes[j] (List.getElem_mem hj'))
          clear hbc pm hmv
          generalize x.boxes[j] = bx at *
          obtain ⟨bn, bv, bt, bml⟩ := bx
          simp only at p1 p2 p3 p4
          generalize hbm : bml.length = bmn at *
          have HBM := Lib.hid hbm
          clear hbm
          have j0 : (0 : Int) ≤ (j : Int) := by omega
          have j1 : (j : Int) < (n : Int) := by omega
          have zq := OX'.out.lt
          have zy := OY'.out.lt
          skip
          go_wp2
          go_loopw [68] (fun iv wi => ∃ k : Nat, k ≤ n2 ∧ iv = .int .i64 k ∧ Own wi wo.heap.size 40 [.string bn, .int .i64 bv, .int .i64 bt, .slice MA bmn mc] ∧ Kept wo wi) (fun iv _ => n2 - (intOf iv).toNat)
          case atStart => exact ⟨0, Nat.zero_le _, rfl, Own.new _ _ [_, _, _, _], (Kept.refl _).alloc _⟩
          case round =>
            obtain ⟨k, hk, rfl, ob, ki⟩ := hrel
            have OB := Lib.hid ob
            obtain ⟨d0, d1, d2, d3⟩ := ob.four
            clear ob x0 x1 x2 y0 y1 y2 p1 p2 p3 p4
            by_cases hkl : k < n2
            · obtain ⟨b2, o2, mv2, rfl, hb2, _, hbc2⟩ := HBXY.out (by omega)
              have hk' : k < y.boxes.length := by rw [HNY.out]; exact hkl
              obtain ⟨p1, p2, p3, p4, pm2⟩ := hbc2.go hb2 (kq.trans ki) (Ext.nil _ _) k hk'
              obtain ⟨NA, nc, hmv⟩ := pm2.form
              rw [hmv] at p4 pm2
              have HPM2 := Lib.hid pm2
              have HKC := Lib.hid (HKB.out y.boxes[k] (List.getElem_mem hk'))
              clear hbc2 pm2 hmv
              generalize y.boxes[k] = cx at *
              obtain ⟨cn, cv, ct, cml⟩ := cx
              simp only at p1 p2 p3 p4
              generalize hcm : cml.length = cmn at *
              have HCM := Lib.hid hcm
              clear hcm
              have k0 : (0 : Int) ≤ (k : Int) := by omega
              have k1 : (k : Int) < (n2 : Int) := by omega
              have zi := OB.out.lt
              by_cases hv : bv = cv
              · have HKD := Lib.hid (HKC.out hv)
                subst hv
                have hlt : ¬ ct < bt := by have := HKD.out.1; simp only at this; omega
                go_wp2_with fail
                refine (old_any ⟨bn, bv, bt, bml⟩ ⟨cn, bv, ct, cml⟩ (.slice MA bmn mc) (.slice NA cmn nc) _ (HPM.out.go (ki.alloc _) (Ext.refl _ _)) (HPM2.out.go ((Kept.refl _).alloc _) (Ext.refl _ _)) HKD.out.2).mono ?_
                rintro e w9 ⟨rfl, hk9⟩
                go_wp2
                go_roundw
                case rel => exact ⟨k + 1, by omega, by go_num, (OB.out.alloc _).kept hk9, (ki.alloc _).trans hk9⟩
                case measure => simp [intOf]; omega
              · have hvb : (bv == cv) = false := beq_f hv
                have hvn : (bv != cv) = true := bne_t hv
                go_wp2
                go_roundw
                case rel => exact ⟨k + 1, by omega, by go_num, OB.out.alloc _, ki.alloc _⟩
                case measure => simp [intOf]; omega
            · obtain rfl : k = n2 := by omega
              go_wp2
              go_roundw
              case rel => exact ⟨j + 1, by omega, by go_num, OX'.out.kept ki, OY'.out.kept ki, kq.trans ki⟩
              case measure => simp [intOf]; omega
        · obtain rfl : j = n := by omega
          replace OX := OX'
          replace OY := OY'
          replace HX := Lib.hid (HX.out.go kq (Ext.refl _ _))
          replace HX2 := Lib.hid (HX2.out.go kq (Ext.refl _ _))
          replace K := K.trans kq
          clear OX' OY' x0 x1 x2 y0 y1 y2
          obtain ⟨cX0, cX1, cX2, fX0, fX1, fX2⟩ := OX.out.three
          obtain ⟨cY0, cY1, cY2, fY0, fY1, fY2⟩ := OY.out.three
          go_wp2
          clear cX0 cX1 cX2 fX0 fX1 fX2 cY0 cY1 cY2 fY0 fY1 fY2
          replace OX : Hid (Own (((wo.setCell ⟨gX, 0, none⟩ (.slice A2 n2 c2)).setCell ⟨gX, 1, none⟩ (.slice A3 n3 c3)).setCell ⟨gX, 2, none⟩ (.int .i64 gv2)) gX 25 [.slice A2 n2 c2, .slice A3 n3 c3, .int .i64 gv2]) := Lib.hid (((OX.out.set_ 0 (.slice A2 n2 c2)).set_ 1 (.slice A3 n3 c3)).set_ 2 (.int .i64 gv2))
          replace OY : Hid (Own (((wo.setCell ⟨gX, 0, none⟩ (.slice A2 n2 c2)).setCell ⟨gX, 1, none⟩ (.slice A3 n3 c3)).setCell ⟨gX, 2, none⟩ (.int .i64 gv2)) gY 25 [.slice A2 n2 c2, .slice A3 n3 c3, .int .i64 gv2]) := Lib.hid (((OY.out.far (p := ⟨gX, 0, none⟩) (by first | omega | (simp; omega) | simp) (.slice A2 n2 c2)).far (p := ⟨gX, 1, none⟩) (by first | omega | (simp; omega) | simp) (.slice A3 n3 c3)).far (p := ⟨gX, 2, none⟩) (by first | omega | (simp; omega) | simp) (.int .i64 gv2))
          replace HX2 := Lib.hid (((HX2.out.put (p := ⟨gX, 0, none⟩) (by simp) (.slice A2 n2 c2)).put (p := ⟨gX, 1, none⟩) (by simp) (.slice A3 n3 c3)).put (p := ⟨gX, 2, none⟩) (by simp) (.int .i64 gv2))
          replace K := (((K.setCell (p := ⟨gX, 0, none⟩) (by first | exact Nat.le_refl _ | (simp only []; omega) | simp) (.slice A2 n2 c2)).setCell (p := ⟨gX, 1, none⟩) (by first | exact Nat.le_refl _ | (simp only []; omega) | simp) (.slice A3 n3 c3)).setCell (p := ⟨gX, 2, none⟩) (by first | exact Nat.le_refl _ | (simp only []; omega) | simp) (.int .i64 gv2))
          generalize (((wo.setCell ⟨gX, 0, none⟩ (.slice A2 n2 c2)).setCell ⟨gX, 1, none⟩ (.slice A3 n3 c3)).setCell ⟨gX, 2, none⟩ (.int .i64 gv2)) = wr2 at *
          go_roundw
          case rel => exact ⟨i + 1, by omega, by go_num, y, _, _, _, _, _, _, _, OX.out, HX2.out.go (Kept.refl _) (fun k hk => .inl (by rw [List.mem_singleton.1 hk]; simp)), HGY.out, K⟩
          case measure => simp [intOf]; omega
end Go.Proofs.Ytjinnkbnllnllaa
