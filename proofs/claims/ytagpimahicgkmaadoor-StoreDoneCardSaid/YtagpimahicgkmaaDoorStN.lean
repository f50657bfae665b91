/- Walk: store.Names. -/
import Derived.Test.YtagpimahicgkmaaDoorStG
import Derived.Test.YtagpimahicgkmaaDoorMa
import Derived.Sort.OwnSorted
namespace Go.Proofs.YtagpimahicgkmaaDoor
open Go.RowKit

open Go.Sort
def strC (l : List UInt8) : List Value := [encStr l]
theorem strC_map (l : List (List UInt8)) : l.flatMap strC = l.map encStr := by
  induction l with
  | nil => rfl
  | cons a l ih => rw [List.flatMap_cons, ih]; rfl
theorem strC_one (l : List (List UInt8)) : ∀ u ∈ l.flatMap strC, u.oneCell' = true := by
  intro u hu
  rw [strC_map] at hu
  obtain ⟨x, _, rfl⟩ := List.mem_map.1 hu
  rfl
theorem Tryd.elStr : Elem Tryd.prog 22 9 1 16 strC :=
  Elem.of (z := .string ⟨#[]⟩) (by kernel_rfl) (by kernel_rfl) rfl (by omega) (fun _ => rfl)
def mkB (l : List UInt8) : ByteArray := ⟨l.toArray⟩
theorem mkB_data (s : ByteArray) : mkB s.data.toList = s := by cases s; simp [mkB]
theorem encStr_data (s : ByteArray) : encStr s.data.toList = .string s := by show Value.string (mkB s.data.toList) = _; rw [mkB_data]
theorem enc_strs (l : List (List UInt8)) : l.map encStr = strs (l.map mkB) := by unfold strs; rw [List.map_map]; rfl
/-- The names of the used slots. -/
def nmL (l : List Slot) : List (List UInt8) := (l.filter (·.used)).map (·.name.data.toList)
def namesL (l : List Slot) : List (List UInt8) := Lib.compact ((nmL l).mergeSort fun x y => decide (x ≤ y))
def namesR (d : Dk) : List ByteArray := if storeB d then (namesL (slotsL (contD d))).map mkB else []
theorem nm_yes {l : List Slot} {k : Nat} (h : k < l.length) (hu : l[k].used = true) : nmL (l.take (k + 1)) = nmL (l.take k) ++ [l[k].name.data.toList] := by
  unfold nmL
  rw [List.take_succ_eq_append_getElem h, List.filter_append, List.map_append, List.filter_cons, hu]; rfl
theorem nm_no {l : List Slot} {k : Nat} (h : k < l.length) (hu : l[k].used = false) : nmL (l.take (k + 1)) = nmL (l.take k) := by
  unfold nmL
  rw [List.take_succ_eq_append_getElem h, List.filter_append, List.map_append, List.filter_cons, hu]; simp
theorem nm_le (l : List Slot) : (nmL l).length ≤ l.length := by unfold nmL; rw [List.length_map]; exact List.length_filter_le _ _
theorem own_cut {w : World} {base base2 g cap n : Nat} {e : TypeId} {ts : List (List UInt8)} {zs : List (List UInt8)} (h : w.ownsRow base2 e 1 (.slice (some ⟨g, 0, none⟩) n cap) n (zs.map encStr)) (hz : zs.take ts.length = ts) (hl : ts.length ≤ n) (hb : base ≤ base2) : w.ownsRow base e 1 (.slice (some ⟨g, 0, none⟩) ts.length cap) (ts.map mkB).length (strs (ts.map mkB)) := by
  obtain ⟨_, h⟩ := h
  refine ⟨by simp [strs], ?_⟩
  rcases h with ⟨hv, _⟩ | ⟨g', cap', cur, hv, hb2, hh, h1, h2, h3, h4⟩
  · cases hv
  · cases hv
    refine .inr ⟨g, cap, cur, by rw [List.length_map], by omega, hh, by rw [List.length_map]; omega, h2, h3, ?_⟩
    rw [← enc_strs, List.length_map, ← hz, List.map_take, ← h4, List.take_take, hz, show min ts.length (n * 1) = ts.length * 1 by omega]
theorem strsAt_row {V : List Nat} {w : World} {base : Nat} {v : Value} {l : List ByteArray} (h : w.ownsRow base 9 1 v l.length (strs l)) (hV : ∀ k ∈ V, k < base) : StrsAt V w v l := by
  rcases h.2 with ⟨hv, hn⟩ | ⟨g, cap, cur, hv, _⟩
  · subst hv
    rw [List.eq_nil_of_length_eq_zero hn]; exact strsAt_nil _ _
  · subst hv
    obtain ⟨A9, c9, e9, h91, h92, h93⟩ := own_form (V := V) h hV
    exact ⟨A9, c9, e9, h91, h92, h93⟩
set_option maxRecDepth 100000 in
set_option maxHeartbeats 4000000 in
theorem names_own (d : Dk) (v : Value) (w : World) (h : DkAt [] w v d) :
    Calls Tryd.prog 35 #[v] w fun e w' => ∃ r, e = .returned r ∧ w'.ownsRow w.heap.size 9 1 r (namesR d).length (strs (namesR d)) ∧ Kept w w' := by
  have HD := Lib.hid h
  obtain ⟨_, _, rfl, _, _⟩ := h
  obtain ⟨A0, c0, B0, e0, rfl, rfl⟩ := HD.out.form
  generalize d.sec.length = n0 at *
  generalize d.cache.length = m0 at *
  go_enter Tryd.func35, Tryd.ntmps35
  go_wp2_with fail
  have OD := Lib.hid (Own.newAt w w.heap.size 25 [.slice A0 n0 c0, .slice B0 m0 e0] (by simp))
  have K := ((Kept.refl w).alloc (.cells #[.slice A0 n0 c0, .slice B0 m0 e0] 25))
  generalize (w.alloc (.cells #[.slice A0 n0 c0, .slice B0 m0 e0] 25)) = w1 at *
  obtain ⟨cD0, cD1, fD0, fD1⟩ := OD.out.two
  clear cD0 cD1 fD0 fD1
  replace HD := Lib.hid (HD.out.go K (Ext.refl _ _))
  refine (contents_any [] d _ _ HD.out (fun _ h => by cases h)).mono ?_
  rintro e w2 ⟨r2, rfl, hr2, hk⟩
  replace OD := Lib.hid (OD.out.kept hk)
  replace K := K.trans hk
  have HR2 := Lib.hid hr2
  clear hr2
  clear hk
  rcases Bool.eq_false_or_eq_true (storeB d) with hs | hs
  · rw [hs]
    have hcl := contD_len hs
    have hc64 := contD_64 hs
    have HG : Hid (namesR d = (namesL (slotsL (contD d))).map mkB) := by show _ = _; unfold namesR; rw [if_pos hs]
    generalize contD d = c at *
    have HCL := Lib.hid hcl
    have HC64 := Lib.hid hc64
    obtain ⟨CA, cc, rfl, hcc1, hcc2, hcrow⟩ := HR2.out
    rw [hcl] at hcc1 ⊢
    unfold maxLen at hcc2
    clear hcrow hcl hc64
    have HSL : Hid (∀ w', Kept w2 w' → StrsAt [] w' (.slice CA 381 cc) c) := fun w' k => by
      have := HR2.out.go k (Ext.refl _ _)
      rwa [HCL.out] at this
    go_wp2_with fail
    refine (slots_any c _ _ (HSL.out _ (Kept.refl _)) HCL.out HC64.out).mono ?_
    rintro e w3 ⟨g, rfl, hg, ho, hk⟩
    replace OD := Lib.hid (OD.out.kept hk)
    replace K := K.trans hk
    have OL := Lib.hid ho
    have HSN : Hid ((slotsL c).length = 32) := slTo_len c 32
    clear ho
    generalize slotsL c = l at *
    clear hk
    have HBW : Hid (w.heap.size ≤ w3.heap.size) := K.size
    go_wp2_with fail
    go_loopw [5, 18] (fun ov iv wq => ∃ (k : Nat) (B : Option Addr) (cap : Nat), k ≤ 32 ∧ iv = .int .i64 k ∧ ov = .slice B (nmL (l.take k)).length cap ∧ wq.ownsRow w3.heap.size 9 1 (.slice B (nmL (l.take k)).length cap) (nmL (l.take k)).length ((nmL (l.take k)).flatMap strC) ∧ Kept w3 wq) (fun _ iv _ => 32 - (intOf iv).toNat)
    case atStart => exact ⟨0, none, 0, Nat.zero_le _, rfl, rfl, World.ownsRow_nil _ _ _ _, Kept.refl _⟩
    case round =>
      have K0 := Lib.hid K
      clear K
      obtain ⟨k, B, cap, hk, rfl, rfl, ho, K⟩ := hrel
      have HO := Lib.hid ho
      have OL2 := Lib.hid (OL.out.kept K)
      clear ho
      have hnl : (nmL (l.take k)).length ≤ 32 := Nat.le_trans (nm_le _) (by rw [List.length_take]; omega)
      by_cases hlt : k < 32
      · have hlt' : k < l.length := by rw [HSN.out]; exact hlt
        obtain ⟨e0, e1, e2, e3, e4⟩ := slotC_five l[k]
        have c0 : wr.cell? ⟨g, k * 5, none⟩ = some (.bool l[k].used) := by rw [OL2.out.cell?]; exact (slot_at hlt' 0 (by omega)).trans e0
        have c1 : wr.cell? ⟨g, k * 5 + 1, none⟩ = some (.int .i64 (l[k].cls : Int)) := by rw [OL2.out.cell?]; exact (slot_at hlt' 1 (by omega)).trans e1
        have c2 : wr.cell? ⟨g, k * 5 + 2, none⟩ = some (.int .i64 (l[k].blk : Int)) := by rw [OL2.out.cell?]; exact (slot_at hlt' 2 (by omega)).trans e2
        have c3 : wr.cell? ⟨g, k * 5 + 3, none⟩ = some (.int .i64 (l[k].size : Int)) := by rw [OL2.out.cell?]; exact (slot_at hlt' 3 (by omega)).trans e3
        have c4 : wr.cell? ⟨g, k * 5 + 4, none⟩ = some (.string l[k].name) := by rw [OL2.out.cell?]; exact (slot_at hlt' 4 (by omega)).trans e4
        have zg := OL2.out.lt
        have HNY : Hid (l[k].used = true → nmL (l.take (k + 1)) = nmL (l.take k) ++ [l[k].name.data.toList]) := nm_yes hlt'
        have HNN : Hid (l[k].used = false → nmL (l.take (k + 1)) = nmL (l.take k)) := nm_no hlt'
        clear e0 e1 e2 e3 e4
        generalize nmL (l.take k) = M at *
        generalize l[k] = tt at *
        obtain ⟨tu, tc, tb, tz, tn⟩ := tt
        simp only at c0 c1 c2 c3 c4 HNY HNN
        have k0 : (0 : Int) ≤ (k : Int) := by omega
        have k1 : (k : Int) < 32 := by omega
        have HME : Hid ((([tn.data.toList] : List (List UInt8)).flatMap strC).toArray = #[Value.string tn]) := by show _ = _; show #[encStr tn.data.toList] = _; rw [encStr_data]
        clear hlt'
        cases tu with
        | false =>
          go_wp2
          go_roundw
          case rel => exact ⟨k + 1, B, cap, by omega, by go_num, by rw [HNN.out rfl], by rw [HNN.out rfl]; exact HO.out.alloc _, K.alloc _⟩
          case measure => simp [intOf]; omega
        | true =>
          have HOW := Lib.hid (Own.new1 wr (.cells #[.bool true, .int .i64 (tc : Int), .int .i64 (tb : Int), .int .i64 (tz : Int), .string tn] 121) 9 ([tn.data.toList].flatMap strC))
          rw [HME.out] at HOW
          go_upto_region 10 with (at_builtin; go_must (refine Tryd.elStr.wpList_app rfl (.tmp 24) (.tmp 27) rfl w3.heap.size _ M rfl ((HO.out.alloc _).alloc _) [] (some ⟨wr.heap.size + 1, 0, none⟩) 1 [tn.data.toList] rfl (HOW.out.row (by simp)) (strC_one _) (by unfold maxLen; simp only [List.length_cons, List.length_nil]; omega) (by simp only [List.length_cons, List.length_nil]; omega) (by have := K.size; simp; omega) ?_; intro v9 w9 hap hgr hat))
          rw [← HNY.out rfl] at hap
          have K9 := ((K.alloc _).alloc _).grown hgr (fun k e => (HO.out.lt k e).1)
          obtain ⟨A9, c9, rfl, _, _, _⟩ := own_form (V := []) hap (by simp)
          have HO9 := Lib.hid hap
          clear hap hgr hat
          go_wp2
          go_roundw
          case rel => exact ⟨k + 1, A9, c9, by omega, by go_num, rfl, HO9.out, K9⟩
          case measure => simp [intOf]; omega
      · have e : l.take k = l := List.take_of_length_le (by rw [HSN.out]; omega)
        rw [e] at HO hnl ⊢
        clear e
        have HNA : Hid (namesR d = (Lib.compact ((nmL l).mergeSort fun x y => decide (x ≤ y))).map mkB) := HG.out
        generalize nmL l = M at *
        have hown := HO.out
        rw [strC_map] at hown
        replace K := K0.out.trans K
        rcases hown.2 with ⟨hv, hn⟩ | ⟨gb, cap', cur, hv, hbase, hbk, h1, h2, h3, h4⟩
        · have hM : M = [] := by
            have := hown.1
            rw [hn] at this
            simpa using this
          subst hM
          cases hv
          clear hown HO hn
          have hnn : (Lib.compact (([] : List (List UInt8)).mergeSort fun x y => decide (x ≤ y))).map mkB = [] := by rw [List.mergeSort_nil]; rfl
          rw [hnn] at HNA
          go_wp2_with fail
          refine (Tryd.slices_Sort_string_none none 0 _).mono ?_
          rintro e _ ⟨rfl, rfl⟩
          go_wp2_with fail
          refine (Tryd.slices_Compact_string_empty none 0 _).mono ?_
          rintro e _ ⟨rfl, rfl⟩
          go_wp2
          go_ret
          exact ⟨_, rfl, by rw [HNA.out]; exact World.ownsRow_nil _ _ _ _, K⟩
        · cases hv
          have hgl : gb < wr.heap.size := (Array.getElem?_eq_some_iff.1 hbk).1
          have HSO := Lib.hid (Tryd.slices_Sort_string gb 0 cap M wr (holds_of_block hbk (by simpa using h4)) hgl (by omega))
          generalize hms : (M.mergeSort fun x y => decide (x ≤ y)) = N at *
          have hNl : N.length = M.length := by rw [← hms]; simp
          have HNL := Lib.hid hNl
          have HBK := Lib.hid hbk
          have H13 := Lib.hid (And.intro h1 (And.intro h2 h3))
          unfold maxLen at h2
          clear hms hown HO hbk h3 h4 hNl
          go_wp2_with fail
          refine HSO.out.mono ?_
          rintro e w6 ⟨rfl, n6, os6, hw6⟩
          have HO6 : Hid (w6.ownsRow w3.heap.size 9 1 (.slice (some ⟨gb, 0, none⟩) M.length cap) M.length (N.map encStr)) := by
            rw [hw6]; exact ownsRow_sorted HNL.out hbase HBK.out H13.out.1 H13.out.2.1 H13.out.2.2
          have hgr6 : wr.grownBy w6 (some gb) := by rw [hw6]; exact grownBy_sorted _
          have K6 := K.grown hgr6 (fun k e => by injection e with e; have := HBW.out; omega)
          clear hw6 hgr6 HSO
          rcases HO6.out.2 with ⟨hv, _⟩ | ⟨gb2, cap2, cur2, hv, hbase2, hbk2, h12, h22, h32, h42⟩
          · cases hv
          · cases hv
            have hcl : (Lib.compact N).length ≤ N.length := Lib.compact_length_le N
            have HSC := Tryd.slices_Compact_string gb 0 cap N w6 (holds_of_block hbk2 (by rw [HNL.out]; simpa using h42)) (by rw [HNL.out]; omega) (by rw [HNL.out]; exact H13.out.1)
            rw [HNL.out] at HSC
            have HSC := Lib.hid HSC
            have HBK2 := Lib.hid hbk2
            have H33 := Lib.hid h32
            have HZL : Hid ((Lib.compact N ++ List.replicate (M.length - (Lib.compact N).length) []).length = M.length) := by
              show _ = _
              rw [List.length_append, List.length_replicate]; have := HNL.out; omega
            have HZT : Hid ((Lib.compact N ++ List.replicate (M.length - (Lib.compact N).length) ([] : List UInt8)).take (Lib.compact N).length = Lib.compact N) := by
              show _ = _
              rw [List.take_left]
            have HCN : Hid ((Lib.compact N).length ≤ M.length) := by have := HNL.out; show _ ≤ _; omega
            clear hbk2 h42 h12 h22 h32 hcl
            generalize Lib.compact N = C at *
            go_wp2_with fail
            refine HSC.out.mono ?_
            rintro e w7 ⟨rfl, q7, hw7⟩
            have hw7' : w7 = grow (putRow encStr (Sort.ahead w6 q7) gb 0 (C ++ List.replicate (M.length - C.length) []).toArray) #[] := by rw [grow_empty]; exact hw7
            have HO7 : Hid (w7.ownsRow w3.heap.size 9 1 (.slice (some ⟨gb, 0, none⟩) M.length cap) M.length ((C ++ List.replicate (M.length - C.length) []).map encStr)) := by
              rw [hw7']; exact ownsRow_sorted HZL.out hbase HBK2.out H13.out.1 H13.out.2.1 H33.out
            have hgr7 : w6.grownBy w7 (some gb) := by rw [hw7']; exact grownBy_sorted _
            have K7 := K6.grown hgr7 (fun k e => by injection e with e; have := HBW.out; omega)
            clear hw7 hw7' hgr7 HSC
            go_wp2
            go_ret
            exact ⟨_, rfl, by rw [HNA.out]; exact own_cut HO7.out HZT.out HCN.out HBW.out, K7⟩
  · rw [hs]
    have HE : Hid (namesR d = []) := by show _ = _; unfold namesR; rw [hs]; rfl
    clear hs
    go_wp2
    go_ret
    exact ⟨_, rfl, by rw [HE.out]; exact World.ownsRow_nil _ _ _ _, K⟩
theorem names_any (V : List Nat) (d : Dk) (v : Value) (w : World) (h : DkAt [] w v d) (hV : Old V w) :
    Calls Tryd.prog 35 #[v] w fun e w' => ∃ r, e = .returned r ∧ StrsAt V w' r (namesR d) ∧ Kept w w' :=
  (names_own d v w h).mono fun _ _ ⟨r, he, hr, hk⟩ => ⟨r, he, strsAt_row hr hV, hk⟩
end Go.Proofs.YtagpimahicgkmaaDoor
