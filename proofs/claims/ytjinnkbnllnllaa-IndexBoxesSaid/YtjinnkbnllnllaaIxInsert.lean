/- Walk: index.without, index.insert. -/
import Derived.Test.YtjinnkbnllnllaaIxInsB
import Derived.Test.YtjinnkbnllnllaaIxCopy
import Derived.Test.YtjinnkbnllnllaaIxBin
import Derived.Test.YtjinnkbnllnllaaLast
import Derived.Deep.CutRange
import Derived.Deep.CutBlock
namespace Go.Proofs.Ytjinnkbnllnllaa
open Go.RowKit

/-- The mailboxes qs are a new row of the call's own. -/
def BoxesPost (qs : List Bp) (w : World) (e : Ending) (w' : World) : Prop :=
  ∃ B c, e = .returned (.slice B qs.length c) ∧ w'.ownsRow w.heap.size 40 4 (.slice B qs.length c) qs.length (bxs qs) ∧ Kept w w'
def xAt (l : List Bx) (i : Nat) : Bx := l.getD i bx0
/-- Where a name belongs, from a place on. -/
def posFrom (l : List Bx) (nm : ByteArray) : Nat → Nat → Nat
  | 0, a => a
  | f + 1, a => if decide (a < l.length) && lessB (xAt l a).name nm then posFrom l nm f (a + 1) else a
def insPos (l : List Bx) (nm : ByteArray) : Nat := posFrom l nm l.length 1
theorem posFrom_le {l : List Bx} {nm : ByteArray} : ∀ f a, a ≤ l.length → posFrom l nm f a ≤ l.length
  | 0, a, h => h
  | f + 1, a, h => by
    unfold posFrom
    split
    · rename_i hc
      rw [Bool.and_eq_true, decide_eq_true_eq] at hc
      exact posFrom_le f (a + 1) (by omega)
    · exact h
theorem insPos_le {l : List Bx} {nm : ByteArray} (h : 1 ≤ l.length) : insPos l nm ≤ l.length := posFrom_le _ _ h
theorem map_at (ps : List Bp) (i : Nat) : xAt (ps.map (·.1)) i = (ps.getD i (bx0, .slice none 0 0)).1 := by
  unfold xAt
  simp only [List.getD, List.getElem?_map]
  cases ps[i]? <;> rfl

set_option maxRecDepth 100000 in
set_option maxHeartbeats 1000000 in
theorem without_any (ps : List Bp) (A : Option Addr) (n c at_ : Nat) (w : World) (hn : ps.length = n) (hrow : Row [] w A (bxs ps)) (hf : ∀ p ∈ ps, ∃ A n c, p.2 = .slice A n c) (ha : at_ < n) (hl : n ≤ 100) :
    Calls Try.prog 53 #[.slice A n c, .int .i64 at_] w (BoxesPost (ps.eraseIdx at_) w) := by
  have HN := Lib.hid hn
  have HROW := Lib.hid hrow
  have HF := Lib.hid hf
  clear hn hrow hf
  go_enter Try.func53, Try.ntmps53
  go_wp2_with fail
  have HC := cloneBx_any ps A c w HROW.out (bxs_one _ HF.out) (by rw [HN.out]; omega)
  rw [HN.out] at HC
  refine HC.mono ?_
  rintro e w1 ⟨B, bc, rfl, ho, hk⟩
  obtain ⟨g, bc', e, hg1, hg2, hg3, hg4⟩ := ownBlock_of_row ho (by omega)
  cases e
  have HD := delB_any w.heap.size g bc at_ ps w1 (by rw [HN.out]; exact ho) (by rw [HN.out]; exact ha) (by rw [HN.out]; omega) HF.out
  rw [HN.out] at HD
  have HD := Lib.hid HD
  clear HC ho
  have a0 : (0 : Int) ≤ (at_ : Int) := by omega
  have aw : IntKind.i64.wrap ((at_ : Int) + 1) = (at_ : Int) + 1 := IntWalk.i64_in _ (by omega)
  go_wp2_with fail
  refine HD.out.mono ?_
  rintro e w2 ⟨n', rfl, hn', ho, hgr⟩
  have HO := Lib.hid ho
  have HN' := Lib.hid hn'
  clear ho hn' HD
  go_wp2
  go_ret
  refine ⟨_, _, by rw [HN'.out]; rfl, ?_, hk.grown hgr (fun k hk => by injection hk with hk; omega)⟩
  have := HO.out
  rw [HN'.out] at this
  exact this

def insB (l : List Bp) (p : Bp) : List Bp := l.take (insPos (l.map (·.1)) p.1.name) ++ p :: l.drop (insPos (l.map (·.1)) p.1.name)
set_option maxRecDepth 100000 in
set_option maxHeartbeats 2000000 in
theorem insert_any (ps : List Bp) (A : Option Addr) (n c : Nat) (pb : Bx) (PA : Option Addr) (pn pc : Nat) (w : World) (hn : ps.length = n) (hrow : Row [] w A (bxs ps)) (hf : ∀ p ∈ ps, ∃ A n c, p.2 = .slice A n c) (h1 : 1 ≤ n) (hl : n ≤ 100) :
    Calls Try.prog 52 #[.slice A n c, .agg #[.string pb.name, .int .i64 pb.val, .int .i64 pb.next, .slice PA pn pc]] w (BoxesPost (insB ps (pb, .slice PA pn pc)) w) := by
  have HN := Lib.hid hn
  have HROW := Lib.hid hrow
  have HF := Lib.hid hf
  clear hn hrow hf
  go_enter Try.func52, Try.ntmps52
  go_upto_block 0 with fail
  have OY := Lib.hid (Own.newAt w w.heap.size 40 [.string pb.name, .int .i64 pb.val, .int .i64 pb.next, .slice PA pn pc] (by simp))
  have K := ((Kept.refl w).alloc (.cells #[.string pb.name, .int .i64 pb.val, .int .i64 pb.next, .slice PA pn pc] 40))
  generalize (w.alloc (.cells #[.string pb.name, .int .i64 pb.val, .int .i64 pb.next, .slice PA pn pc] 40)) = w1 at *
  have cY0 := OY.out.cell? 0
  have fY0 := OY.out.frozen 0
  have cY1 := OY.out.cell? 1
  have fY1 := OY.out.frozen 1
  have cY2 := OY.out.cell? 2
  have fY2 := OY.out.frozen 2
  have cY3 := OY.out.cell? 3
  have fY3 := OY.out.frozen 3
  simp only [List.getElem?_cons_zero, List.getElem?_cons_succ] at cY0 cY1 cY2 cY3
  clear cY0 cY1 cY2 cY3 fY0 fY1 fY2 fY3
  go_cut [5] from 6 to 21 (fun av wq => av = .int .i64 ((insPos (ps.map (·.1)) pb.name : Nat) : Int) ∧ Own wq w.heap.size 40 [.string pb.name, .int .i64 pb.val, .int .i64 pb.next, .slice PA pn pc] ∧ Kept w wq)
  case first =>
    obtain ⟨b, o, e, hb, _, hcs⟩ := HROW.out (by rw [bxs_length, HN.out]; omega)
    subst e
    have HCS := Lib.hid hcs
    clear hcs
    go_wp2_with fail
    go_loopw [5] (fun av wq => ∃ a f : Nat, 1 ≤ a ∧ a ≤ n ∧ n ≤ a + f ∧ av = .int .i64 a ∧ Hid (posFrom (ps.map (·.1)) pb.name f a = insPos (ps.map (·.1)) pb.name) ∧ Own wq w.heap.size 40 [.string pb.name, .int .i64 pb.val, .int .i64 pb.next, .slice PA pn pc] ∧ Kept w wq) (fun av _ => n - (intOf av).toNat)
    case atStart => exact ⟨1, n, Nat.le_refl _, h1, by omega, rfl, by rw [show n = (ps.map (·.1)).length by rw [List.length_map, HN.out]]; rfl, OY.out, K⟩
    case round =>
      clear OY K
      obtain ⟨a, f, ha1, ha2, haf, rfl, HP, oy, K⟩ := hrel
      have OY := Lib.hid oy
      clear oy
      obtain ⟨cY0, cY1, cY2, cY3⟩ := OY.out.four
      have a0 : (0 : Int) ≤ (a : Int) := by omega
      by_cases hlt : a < n
      · obtain ⟨f', rfl⟩ : ∃ f', f = f' + 1 := ⟨f - 1, by omega⟩
        have hk' : a < ps.length := by rw [HN.out]; exact hlt
        have g1 := (K.cell (p := ⟨b, o + a * 4, none⟩) hb).trans (HCS.out _ _ (bxs_at hk').1)
        have HXA : Hid (xAt (ps.map (·.1)) a = ps[a].1) := by show _ = _; rw [map_at]; simp [hk']
        have HPF : Hid (posFrom (ps.map (·.1)) pb.name (f' + 1) a = if lessB ps[a].1.name pb.name then posFrom (ps.map (·.1)) pb.name f' (a + 1) else a) := by
          show _ = _
          rw [posFrom, HXA.out, decide_eq_true (by rw [List.length_map, HN.out]; exact hlt), Bool.true_and]
        generalize ps[a].1.name = an at *
        have a1 : (a : Int) < (n : Int) := by omega
        obtain ⟨lt, hlt'⟩ : ∃ p, Op.bytesLess an.toList pb.name.toList = p := ⟨_, rfl⟩
        have HLT : Hid (lessB an pb.name = lt) := hlt'
        cases lt with
        | true =>
          go_wp2_with fail
          go_quiet (fail)
          go_wp2
          go_roundw
          case rel => exact ⟨a + 1, f', by omega, by omega, by omega, by go_num, by rw [← HP.out, HPF.out, HLT.out]; rfl, OY.out.drewN _, K.drewN _⟩
          case measure => simp [intOf]; omega
        | false =>
          go_wp2_with fail
          go_quiet (fail)
          go_wp2_with fail
          go_meet
          exact ⟨by rw [← HP.out, HPF.out, HLT.out]; rfl, OY.out.drewN _, K.drewN _⟩
      · have HPE : Hid (posFrom (ps.map (·.1)) pb.name f a = a) := by
          show _ = _
          cases f with
          | zero => rfl
          | succ f => rw [posFrom, decide_eq_false (by rw [List.length_map, HN.out]; exact hlt)]; rfl
        have d1 : decide ((a : Int) < (n : Int)) = false := decide_eq_false (by omega)
        have d2 : decide (a < n) = false := decide_eq_false hlt
        go_wp2_with fail
        go_quiet (fail)
        go_wp2_with fail
        go_meet
        exact ⟨by rw [← HP.out, HPE.out], OY.out.drewN _, K.drewN _⟩
  case rest =>
    clear OY K
    obtain ⟨rfl, oy, K⟩ := hcut
    have OY := Lib.hid oy
    clear oy
    have hpl : insPos (ps.map (·.1)) pb.name ≤ n := by have := insPos_le (l := ps.map (·.1)) (nm := pb.name) (by rw [List.length_map, HN.out]; exact h1); rwa [List.length_map, HN.out] at this
    have HIB : Hid (insB ps (pb, .slice PA pn pc) = ps.take (insPos (ps.map (·.1)) pb.name) ++ (pb, .slice PA pn pc) :: ps.drop (insPos (ps.map (·.1)) pb.name)) := rfl
    generalize insPos (ps.map (·.1)) pb.name = at_ at *
    have a0 : (0 : Int) ≤ (at_ : Int) := by omega
    have HLEN : Hid ((insB ps (pb, .slice PA pn pc)).length = n + 1) := by show _ = _; rw [HIB.out, List.length_append, List.length_cons, List.length_take, List.length_drop, HN.out]; omega
    have HR := Lib.hid (HROW.out.kept K)
    have zw := K.size
    go_upto_region 4 with fail
    have CY0 : ∀ W', Kept wc W' → W'.cell? ⟨w.heap.size, 0, none⟩ = some (.string pb.name) := fun W' hk => (OY.out.kept hk).cell? 0
    have CY1 : ∀ W', Kept wc W' → W'.cell? ⟨w.heap.size, 1, none⟩ = some (.int .i64 pb.val) := fun W' hk => (OY.out.kept hk).cell? 1
    have CY2 : ∀ W', Kept wc W' → W'.cell? ⟨w.heap.size, 2, none⟩ = some (.int .i64 pb.next) := fun W' hk => (OY.out.kept hk).cell? 2
    have CY3 : ∀ W', Kept wc W' → W'.cell? ⟨w.heap.size, 3, none⟩ = some (.slice PA pn pc) := fun W' hk => (OY.out.kept hk).cell? 3
    refine wp_region_Z (S := fun W' => Kept wc W') (Z := []) (by kernel_rfl) ((Kept.refl _).drew) (fun hHeld => ?_)
    have kr := (Kept.refl wc).drew
    have Kr := K
    have zr := K.size
    have OYr := OY
    have HRr := HR
    replace OY := Lib.hid (OYr.out.kept kr)
    replace HR := Lib.hid (HRr.out.go kr (Ext.refl _ _))
    replace K := Kr.trans kr
    generalize wc.drew = wq2 at *
    refine wpAnyZ_take (i := 0) (oi := { dst := some 22, op := Op.move (Operand.tmp 0), type := 22, pos := "changes.go:32", after := #[], guard := none }) (v := ?_) rfl (by kernel_rfl) (fun _ _ _ h => h) (Or.inl ⟨by rfl, ?_⟩) (by assumption) ?_
    rotate_left
    · (intro wz hSw; (try dsimp only at hSw); go_simp; (try with_reducible rfl))
    (try simp only [Act.put, List.setIfInBounds_toArray, List.set_cons_zero, List.set_cons_succ])
    refine wpAnyZ_take (i := 2) (oi := { dst := some 24, op := Op.move (Operand.tmp 5), type := 3, pos := "changes.go:32", after := #[], guard := none }) (v := ?_) rfl (by kernel_rfl) (fun _ _ _ h => h) (Or.inl ⟨by rfl, ?_⟩) (by assumption) ?_
    rotate_left
    · (intro wz hSw; (try dsimp only at hSw); go_simp; (try with_reducible rfl))
    (try simp only [Act.put, List.setIfInBounds_toArray, List.set_cons_zero, List.set_cons_succ])
    refine wpAnyZ_take (i := 3) (oi := { dst := some 25, op := Op.load 40 (Operand.tmp 3), type := 40, pos := "changes.go:32", after := #[], guard := none }) (v := ?_) rfl (by kernel_rfl) (fun _ _ _ h => h) (Or.inl ⟨by rfl, ?_⟩) (by assumption) ?_
    rotate_left
    · (intro wz hSw; (try dsimp only at hSw); go_simp; (try with_reducible rfl))
    (try simp only [Act.put, List.setIfInBounds_toArray, List.set_cons_zero, List.set_cons_succ])
    refine wpAnyZ_ready (rs := [1, 4]) (by kernel_rfl) (by simp) ?_
    refine AllReadyZ.cons (o := { dst := some 23, op := Op.call { callee := Callee.value (Operand.func 59), args := #[Operand.tmp 22], argTypes := #[22] }, type := 22, pos := "changes.go:32", after := #[{ on := 0, ground := Ground.data }], guard := none }) rfl (fun KK hKK => ?_) ?_
    · skip
      have krz := kr.size
      go_simp
      have HC := cloneBx_any ps A c wq2 HR.out (bxs_one _ HF.out) (by rw [HN.out]; omega)
      rw [HN.out] at HC
      refine HC.mono ?_
      rintro e wq3 ⟨C, cc, rfl, ho, hk⟩
      clear hHeld HC
      replace kr := kr.trans hk
      replace OY := Lib.hid (OYr.out.kept kr)
      replace HR := Lib.hid (HRr.out.go kr (Ext.refl _ _))
      replace K := Kr.trans kr
      have HO := Lib.hid (World.ownsRow.mono ho (show wc.heap.size ≤ wq2.heap.size from krz))
      have HOL : Hid (∀ k, (Value.slice C n cc).ownBlock = some k → k < wq3.heap.size) := fun k e => (ho.lt _ e).2
      clear ho hk krz
      go_wp2_with fail
      refine hKK.out _ _ ?_ (fun hHeld => ?_)
      · exact kr
      clear hKK KK
      (try simp only [Act.put, List.setIfInBounds_toArray, List.set_cons_zero, List.set_cons_succ])
      refine wpAnyZ_ready (rs := [4]) (by kernel_rfl) (by simp) ?_
      refine AllReadyZ.cons (o := { dst := some 26, op := Op.buildSlice 22 1 #[(0, Operand.tmp 25)], type := 22, pos := "changes.go:32", after := #[{ on := 3, ground := Ground.data }], guard := none }) rfl (fun KK hKK => ?_) AllReadyZ.nil
      go_simp
      replace kr := kr.alloc (.cells #[.string pb.name, .int .i64 pb.val, .int .i64 pb.next, .slice PA pn pc] 40)
      clear hHeld
      have OS := Lib.hid (Own.new wq3 40 [.string pb.name, .int .i64 pb.val, .int .i64 pb.next, .slice PA pn pc])
      replace HO := Lib.hid (HO.out.alloc (.cells #[.string pb.name, .int .i64 pb.val, .int .i64 pb.next, .slice PA pn pc] 40))
      replace OY := Lib.hid (OYr.out.kept kr)
      replace HR := Lib.hid (HRr.out.go kr (Ext.refl _ _))
      replace K := Kr.trans kr
      generalize (wq3.alloc (.cells #[.string pb.name, .int .i64 pb.val, .int .i64 pb.next, .slice PA pn pc] 40)) = wq4 at *
      generalize wq3.heap.size = bS at *
      have zbs := OS.out.lt
      refine hKK.out _ _ ?_ (fun hHeld => ?_)
      · exact kr
      clear hKK KK
      (try simp only [Act.put, List.setIfInBounds_toArray, List.set_cons_zero, List.set_cons_succ])
      refine wpAnyZ_ready (rs := [5]) (by kernel_rfl) (by simp) ?_
      refine AllReadyZ.cons (o := { dst := some 27, op := Op.call { callee := Callee.value (Operand.func 66), args := #[Operand.tmp 23, Operand.tmp 24, Operand.tmp 26], argTypes := #[22, 3, 22] }, type := 22, pos := "changes.go:32", after := #[{ on := 1, ground := Ground.data }, { on := 2, ground := Ground.data }, { on := 4, ground := Ground.data }, { on := 1, ground := Ground.chain }], guard := none }) rfl (fun KK hKK => ?_) AllReadyZ.nil
      have hobs : (Value.slice C n cc).ownBlock ≠ some bS := fun e => by have := HOL.out _ e; omega
      go_simp
      have HI := insB_any wc.heap.size at_ bS (.slice C n cc) ps (pb, .slice PA pn pc) wq4 (by rw [HN.out]; exact HO.out) kr.size (by rw [HN.out]; exact hpl) (by rw [HN.out]; omega) (bxs_one _ HF.out) (by simpa [bxs] using bxs_one [(pb, Value.slice PA pn pc)] (fun p hp => by rw [List.mem_singleton.1 hp]; exact ⟨_, _, _, rfl⟩)) OS.out hobs
      refine HI.mono ?_
      rintro e wq5 ⟨v', rfl, h1', h2', _⟩
      clear hHeld HI
      replace kr := kr.grown h2' (fun k hk => (ownBlock_of HO.out hk).1)
      replace OY := Lib.hid (OYr.out.kept kr)
      replace HR := Lib.hid (HRr.out.go kr (Ext.refl _ _))
      replace K := Kr.trans kr
      rw [HN.out, ← HIB.out] at h1'
      obtain ⟨B5, c5, rfl, _, _, _⟩ := own_form (V := []) h1' (by simp)
      have H5 := Lib.hid h1'
      clear h1' h2'
      go_wp2_with fail
      refine hKK.out _ _ ?_ (fun hHeld => ?_)
      · exact kr
      clear hKK KK
      (try simp only [Act.put, List.setIfInBounds_toArray, List.set_cons_zero, List.set_cons_succ])
      refine wpAnyZ_take (i := 6) (oi := { dst := some 4, op := Op.assign (Operand.tmp 27), type := 22, pos := "changes.go:32", after := #[{ on := 5, ground := Ground.data }, { on := 5, ground := Ground.chain }, { on := 0, ground := Ground.phase }, { on := 1, ground := Ground.phase }, { on := 2, ground := Ground.phase }, { on := 3, ground := Ground.phase }, { on := 4, ground := Ground.phase }, { on := 5, ground := Ground.phase }], guard := none }) (v := ?_) rfl (by kernel_rfl) (fun _ _ _ h => h) (Or.inl ⟨by rfl, ?_⟩) (by assumption) ?_
      rotate_left
      · (intro wz hSw; (try dsimp only at hSw); go_simp; (try with_reducible rfl))
      (try simp only [Act.put, List.setIfInBounds_toArray, List.set_cons_zero, List.set_cons_succ])
      refine wpAnyZ_done (by kernel_rfl) ?_ _
      clear CY0 CY1 CY2 CY3 OYr HRr Kr zr hHeld kr
      go_wp2
      go_ret
      exact ⟨B5, c5, by rw [HLEN.out]; rfl, by rw [HLEN.out]; exact World.ownsRow.mono H5.out zw, K⟩
    refine AllReadyZ.cons (o := { dst := some 26, op := Op.buildSlice 22 1 #[(0, Operand.tmp 25)], type := 22, pos := "changes.go:32", after := #[{ on := 3, ground := Ground.data }], guard := none }) rfl (fun KK hKK => ?_) AllReadyZ.nil
    go_simp
    replace kr := kr.alloc (.cells #[.string pb.name, .int .i64 pb.val, .int .i64 pb.next, .slice PA pn pc] 40)
    clear hHeld
    have OS := Lib.hid (Own.new wq2 40 [.string pb.name, .int .i64 pb.val, .int .i64 pb.next, .slice PA pn pc])
    replace OY := Lib.hid (OYr.out.kept kr)
    replace HR := Lib.hid (HRr.out.go kr (Ext.refl _ _))
    replace K := Kr.trans kr
    generalize (wq2.alloc (.cells #[.string pb.name, .int .i64 pb.val, .int .i64 pb.next, .slice PA pn pc] 40)) = wq3 at *
    generalize wq2.heap.size = bS at *
    have zbs := OS.out.lt
    refine hKK.out _ _ ?_ (fun hHeld => ?_)
    · exact kr
    clear hKK KK
    (try simp only [Act.put, List.setIfInBounds_toArray, List.set_cons_zero, List.set_cons_succ])
    refine wpAnyZ_ready (rs := [1]) (by kernel_rfl) (by simp) ?_
    refine AllReadyZ.cons (o := { dst := some 23, op := Op.call { callee := Callee.value (Operand.func 59), args := #[Operand.tmp 22], argTypes := #[22] }, type := 22, pos := "changes.go:32", after := #[{ on := 0, ground := Ground.data }], guard := none }) rfl (fun KK hKK => ?_) AllReadyZ.nil
    have krz := kr.size
    go_simp
    have HC := cloneBx_any ps A c wq3 HR.out (bxs_one _ HF.out) (by rw [HN.out]; omega)
    rw [HN.out] at HC
    refine HC.mono ?_
    rintro e wq4 ⟨C, cc, rfl, ho, hk⟩
    clear hHeld HC
    replace kr := kr.trans hk
    replace OY := Lib.hid (OYr.out.kept kr)
    replace HR := Lib.hid (HRr.out.go kr (Ext.refl _ _))
    replace K := Kr.trans kr
    replace OS := Lib.hid (OS.out.kept hk)
    have zs := OS.out.lt
    have HO := Lib.hid (World.ownsRow.mono ho (show wc.heap.size ≤ wq3.heap.size from krz))
    have hob : (Value.slice C n cc).ownBlock ≠ some bS := fun e => by have := (ho.lt _ e).1; omega
    clear ho hk krz
    go_wp2_with fail
    refine hKK.out _ _ ?_ (fun hHeld => ?_)
    · exact kr
    clear hKK KK
    (try simp only [Act.put, List.setIfInBounds_toArray, List.set_cons_zero, List.set_cons_succ])
    refine wpAnyZ_ready (rs := [5]) (by kernel_rfl) (by simp) ?_
    refine AllReadyZ.cons (o := { dst := some 27, op := Op.call { callee := Callee.value (Operand.func 66), args := #[Operand.tmp 23, Operand.tmp 24, Operand.tmp 26], argTypes := #[22, 3, 22] }, type := 22, pos := "changes.go:32", after := #[{ on := 1, ground := Ground.data }, { on := 2, ground := Ground.data }, { on := 4, ground := Ground.data }, { on := 1, ground := Ground.chain }], guard := none }) rfl (fun KK hKK => ?_) AllReadyZ.nil
    have hobs : (Value.slice C n cc).ownBlock ≠ some bS := hob
    go_simp
    have HI := insB_any wc.heap.size at_ bS (.slice C n cc) ps (pb, .slice PA pn pc) wq4 (by rw [HN.out]; exact HO.out) kr.size (by rw [HN.out]; exact hpl) (by rw [HN.out]; omega) (bxs_one _ HF.out) (by simpa [bxs] using bxs_one [(pb, Value.slice PA pn pc)] (fun p hp => by rw [List.mem_singleton.1 hp]; exact ⟨_, _, _, rfl⟩)) OS.out hobs
    refine HI.mono ?_
    rintro e wq5 ⟨v', rfl, h1', h2', _⟩
    clear hHeld HI
    replace kr := kr.grown h2' (fun k hk => (ownBlock_of HO.out hk).1)
    replace OY := Lib.hid (OYr.out.kept kr)
    replace HR := Lib.hid (HRr.out.go kr (Ext.refl _ _))
    replace K := Kr.trans kr
    rw [HN.out, ← HIB.out] at h1'
    obtain ⟨B5, c5, rfl, _, _, _⟩ := own_form (V := []) h1' (by simp)
    have H5 := Lib.hid h1'
    clear h1' h2'
    go_wp2_with fail
    refine hKK.out _ _ ?_ (fun hHeld => ?_)
    · exact kr
    clear hKK KK
    (try simp only [Act.put, List.setIfInBounds_toArray, List.set_cons_zero, List.set_cons_succ])
    refine wpAnyZ_take (i := 6) (oi := { dst := some 4, op := Op.assign (Operand.tmp 27), type := 22, pos := "changes.go:32", after := #[{ on := 5, ground := Ground.data }, { on := 5, ground := Ground.chain }, { on := 0, ground := Ground.phase }, { on := 1, ground := Ground.phase }, { on := 2, ground := Ground.phase }, { on := 3, ground := Ground.phase }, { on := 4, ground := Ground.phase }, { on := 5, ground := Ground.phase }], guard := none }) (v := ?_) rfl (by kernel_rfl) (fun _ _ _ h => h) (Or.inl ⟨by rfl, ?_⟩) (by assumption) ?_
    rotate_left
    · (intro wz hSw; (try dsimp only at hSw); go_simp; (try with_reducible rfl))
    (try simp only [Act.put, List.setIfInBounds_toArray, List.set_cons_zero, List.set_cons_succ])
    refine wpAnyZ_done (by kernel_rfl) ?_ _
    clear CY0 CY1 CY2 CY3 OYr HRr Kr zr hHeld kr
    go_wp2
    go_ret
    exact ⟨B5, c5, by rw [HLEN.out]; rfl, by rw [HLEN.out]; exact World.ownsRow.mono H5.out zw, K⟩
end Go.Proofs.Ytjinnkbnllnllaa
