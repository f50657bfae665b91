/- Plain: the repair of a disk; behind any part of a plan, and crashes, all is as it was, or as a commit makes it. -/
import Derived.Test.YtagpimahicgkmaaDoorMc
namespace Go.Proofs.YtagpimahicgkmaaDoor

/-- The number that a destination's sector says. -/
def le4 (s : ByteArray) : Nat := (byteAt s 0).toNat + 256 * (byteAt s 1).toNat + 65536 * (byteAt s 2).toNat + 16777216 * (byteAt s 3).toNat
def joinB (xs : List ByteArray) : ByteArray := ⟨(Lib.join (xs.map (·.data.toList)) []).toArray⟩
def entOk (c : List ByteArray) (i : Nat) : Bool := decide (61 ≤ le4 (atS c (1 + 2 * i))) && decide (le4 (atS c (1 + 2 * i)) < c.length) && decide (atS c (1 + 2 * i) = dst (le4 (atS c (1 + 2 * i))))
def entWr (c : List ByteArray) (i : Nat) : Wr := ⟨le4 (atS c (1 + 2 * i)), atS c (2 + 2 * i)⟩
def entN (c : List ByteArray) : Nat := (byteAt (atS c 0) 1).toNat
def entHead (c : List ByteArray) : ByteArray := hdr (entN c) (joinB ((c.drop 1).take (2 * entN c)))
def entriesB (c : List ByteArray) : Bool := decide (1 ≤ entN c) && decide (entN c ≤ 30) && decide (atS c 0 = entHead c) && (List.range (entN c)).all (entOk c)
def entL (c : List ByteArray) (k : Nat) : List Wr := (List.range k).map (entWr c)
def repTail (c : List ByteArray) : List WOp := if entriesB c then tailOps (entL c (entN c)) else [wop ⟨0, zerosB 64⟩, opF]
/-- The repair of a disk. -/
def repOps (d : Dk) : List WOp := if suitsB d && decide (byteAt (atS (viewD d) 0) 0 = 74) then repTail (viewD d) else []
def recD (d : Dk) : Dk := runO d (repOps d) (repOps d).length

theorem rep_zero {d : Dk} (h : byteAt (atS (viewD d) 0) 0 ≠ 74) : repOps d = [] := by
  unfold repOps
  rw [decide_eq_false h, Bool.and_false]; rfl
theorem zero_no : byteAt (zerosB 64) 0 ≠ 74 := by decide
theorem rec_nil {d : Dk} (h : repOps d = []) : recD d = d := by unfold recD; rw [h]; rfl
theorem repTail_end (c : List ByteArray) : ∃ X, repTail c = X ++ [wop ⟨0, zerosB 64⟩, opF] := by
  unfold repTail tailOps
  split
  · exact ⟨(entL c (entN c)).map wop ++ [opF], by simp⟩
  · exact ⟨[], rfl⟩
theorem rec_zero {d : Dk} (h : suitsB d = true) (hb : byteAt (atS (viewD d) 0) 0 = 74) : atS (viewD (recD d)) 0 = zerosB 64 := by
  have e : repOps d = repTail (viewD d) := by unfold repOps; rw [h, decide_eq_true hb]; rfl
  obtain ⟨X, hX⟩ := repTail_end (viewD d)
  rw [← e] at hX
  simp only [suitsB, Bool.and_eq_true, decide_eq_true_eq] at h
  unfold recD
  rw [run_all, hX, List.foldl_append]
  obtain ⟨r1, l1⟩ := fold_right X h.2
  generalize X.foldl stepO d = e1 at r1 l1
  have hz : fitsB ⟨0, zerosB 64⟩ e1.sec.length = true := fits_mk (Int.le_refl _) (by simp only; omega) (zerosB_size 64)
  rw [List.foldl_cons, step_w r1 hz, List.foldl_cons, step_f (right_app (ws := [_]) r1 (by simpa using hz))]
  show atS (setL e1.sec (e1.cache ++ [⟨0, zerosB 64⟩])) 0 = _
  rw [setL_app, setL_at (one_nn _) (by rw [setL_len]; omega)]
  rfl
theorem rec_twice (d : Dk) : recD (recD d) = recD d := by
  by_cases h : suitsB d = true ∧ byteAt (atS (viewD d) 0) 0 = 74
  · exact rec_nil (rep_zero (by rw [rec_zero h.1 h.2]; exact zero_no))
  · have : repOps d = [] := by
      unfold repOps
      by_cases h1 : suitsB d = true
      · rw [decide_eq_false (fun h2 => h ⟨h1, h2⟩), Bool.and_false]; rfl
      · rw [show suitsB d = false by simpa using h1]; rfl
    rw [rec_nil this, rec_nil this]
theorem rec_done {d : Dk} {l : List Wr} (h : Ok d l) : recD (doneD d l) = doneD d l :=
  rec_nil (rep_zero (by show byteAt (atS (doneD d l).sec 0) 0 ≠ 74; rw [done_zero h]; exact zero_no))

/-- A flushed disk that is as d is from sector 61 on, and has no header. -/
structure Like (d s : Dk) : Prop where
  right : rightB s = true
  nil : s.cache = []
  len : s.sec.length = d.sec.length
  no : byteAt (atS s.sec 0) 0 ≠ 74
  rest : ∀ i, 61 ≤ i → i < d.sec.length → atS s.sec i = atS d.sec i
/-- A flushed disk with the journal of l. -/
structure Jr (d : Dk) (l : List Wr) (s : Dk) : Prop where
  right : rightB s = true
  nil : s.cache = []
  len : s.sec.length = d.sec.length
  head : atS s.sec 0 = hdrOf l
  ent : ∀ i, i < l.length → atS s.sec (1 + 2 * i) = dst (atW l i).at_.toNat ∧ atS s.sec (2 + 2 * i) = (atW l i).data
  rest : ∀ i, 61 ≤ i → i < d.sec.length → atS s.sec i = atS d.sec i ∨ ∃ x ∈ l, x.at_ = (i : Int)

theorem readTo_some {at_ : Int} {l : List Wr} (h : ∃ x ∈ l, x.at_ = at_) (s s' : ByteArray) : readTo at_ s l = readTo at_ s' l := by
  induction l generalizing s s' with
  | nil => obtain ⟨x, hx, _⟩ := h; cases hx
  | cons y l ih =>
    show readTo at_ (if y.at_ = at_ then y.data else s) l = readTo at_ (if y.at_ = at_ then y.data else s') l
    by_cases hy : y.at_ = at_
    · rw [if_pos hy, if_pos hy]
    · obtain ⟨x, hx, e⟩ := h
      rcases List.mem_cons.1 hx with rfl | hx
      · exact absurd e hy
      · exact ih ⟨x, hx, e⟩ _ _
theorem no_mem {at_ : Int} {l : List Wr} (h : ¬ ∃ x ∈ l, x.at_ = at_) : ∀ x ∈ l, x.at_ ≠ at_ := fun x hx e => h ⟨x, hx, e⟩
theorem hdr_list (n : Nat) (all : ByteArray) : (hdr n all).data.toList = [74, UInt8.ofNat n] ++ (shaS all).data.toList ++ (zerosB 30).data.toList := by
  unfold hdr
  rw [ByteArray.data_append, ByteArray.data_append, Array.toList_append, Array.toList_append]
theorem hdr_b0 (n : Nat) (all : ByteArray) : byteAt (hdr n all) 0 = 74 := by unfold byteAt; rw [hdr_list]; rfl
theorem hdr_b1 (n : Nat) (all : ByteArray) : byteAt (hdr n all) 1 = UInt8.ofNat n := by unfold byteAt; rw [hdr_list]; rfl
theorem dst_byte (a : Nat) : ∀ k, k < 4 → byteAt (dst a) k = byteOf a k := by
  intro k hk
  unfold byteAt dst
  show (dstTo a 4).toArray.toList.getD k 0 = _
  rw [List.toList_toArray]
  match k, hk with
  | 0, _ => rfl
  | 1, _ => rfl
  | 2, _ => rfl
  | 3, _ => rfl
theorem le4_dst (a : Nat) (h : a < 4294967296) : le4 (dst a) = a := by
  unfold le4
  rw [dst_byte a 0 (by omega), dst_byte a 1 (by omega), dst_byte a 2 (by omega), dst_byte a 3 (by omega)]
  unfold byteOf
  simp only [UInt8.toNat_ofNat', Nat.mul_zero, Nat.pow_zero, Nat.div_one, Nat.mul_one, Nat.reduceMul, Nat.reducePow]
  omega
theorem take_two (c : List ByteArray) (k : Nat) (h : 2 * k + 2 < c.length) : (c.drop 1).take (2 * (k + 1)) = (c.drop 1).take (2 * k) ++ [atS c (1 + 2 * k), atS c (2 + 2 * k)] := by
  have e : ∀ n, n < c.length → c[n]? = some (atS c n) := fun n hn => by
    unfold atS; rw [List.getD_eq_getElem?_getD, List.getElem?_eq_getElem hn]; rfl
  rw [show 2 * (k + 1) = 2 * k + 1 + 1 by omega, List.take_add_one, List.take_add_one, List.getElem?_drop, List.getElem?_drop, e _ (by omega), e _ (by omega), List.append_assoc, show 1 + (2 * k + 1) = 2 + 2 * k by omega]
  rfl
theorem join_flat : ∀ xs : List (List UInt8), Lib.join xs [] = xs.flatten
  | [] => rfl
  | x :: r => by rw [Lib.join_cons]; simp [Lib.joinTail]
theorem join_all (c : List ByteArray) (l : List Wr) : ∀ n, n ≤ l.length → (∀ i, i < l.length → atS c (1 + 2 * i) = dst (atW l i).at_.toNat ∧ atS c (2 + 2 * i) = (atW l i).data) → 2 * n < c.length → Lib.join (((c.drop 1).take (2 * n)).map (·.data.toList)) [] = allTo l n
  | 0, _, _, _ => rfl
  | n + 1, h, hs, hc => by
    have ih := join_all c l n (by omega) hs (by omega)
    obtain ⟨e1, e2⟩ := hs n (by omega)
    rw [take_two c n (by omega), e1, e2, allTo, join_flat, List.map_append, List.flatten_append, ← join_flat, ih]
    simp
section
variable {d s : Dk} {l : List Wr}
theorem view_flat (h : s.cache = []) : viewD s = s.sec := by unfold viewD; rw [h]; rfl
theorem Jr.sets (j : Jr d l s) (h : Ok d l) : Jr d l ⟨setL s.sec l, []⟩ := by
  have hlen := h.len
  have hfew := h.few
  refine ⟨?_, rfl, by rw [setL_len]; exact j.len, ?_, fun i hi => ?_, fun i h1 h2 => ?_⟩
  · have hr : rightB ⟨s.sec, []⟩ = true := by have := j.right; rw [show s = ⟨s.sec, s.cache⟩ from rfl, j.nil] at this; exact this
    exact right_setL hr (h.body j.len)
  · show atS (setL s.sec l) 0 = _
    rw [setL_at h.nn (by rw [j.len]; omega), readTo_none (fun x hx => by have := (h.all x hx).1; omega), j.head]
  · obtain ⟨e1, e2⟩ := j.ent i hi
    constructor
    · show atS (setL s.sec l) _ = _
      rw [setL_at h.nn (by rw [j.len]; omega), readTo_none (fun x hx => by have := (h.all x hx).1; omega), e1]
    · show atS (setL s.sec l) _ = _
      rw [setL_at h.nn (by rw [j.len]; omega), readTo_none (fun x hx => by have := (h.all x hx).1; omega), e2]
  · by_cases hx : ∃ x ∈ l, x.at_ = (i : Int)
    · exact .inr hx
    · refine .inl ?_
      show atS (setL s.sec l) _ = _
      rw [setL_at h.nn (by rw [j.len]; exact h2), readTo_none (no_mem hx)]
      exact (j.rest i h1 h2).elim id (fun h => absurd h hx)
theorem Jr.done (j : Jr d l s) (h : Ok d l) (hd : d.cache = []) : Like (doneD d l) ⟨setL (setL s.sec l) [⟨0, zerosB 64⟩], []⟩ := by
  have hlen := h.len
  have j2 := j.sets h
  have l2 : (setL s.sec l).length = d.sec.length := j2.len
  refine ⟨right_setL j2.right (h.head l2 _ (zerosB_size 64)), rfl, ?_, ?_, fun i h1 h2 => ?_⟩
  · show (setL (setL s.sec l) _).length = _
    rw [setL_len, l2, done_len]
  · show byteAt (atS (setL (setL s.sec l) _) 0) 0 ≠ 74
    rw [setL_at (one_nn _) (by rw [l2]; omega)]
    exact zero_no
  · rw [done_len] at h2
    show atS (setL (setL s.sec l) _) i = _
    rw [setL_at (one_nn _) (by rw [l2]; exact h2), readTo_none (one_no (by omega) _), setL_at h.nn (by rw [j.len]; exact h2), done_at h h1 h2]
    by_cases hx : ∃ x ∈ l, x.at_ = (i : Int)
    · exact readTo_some hx _ _
    · rw [(j.rest i h1 h2).elim id (fun h => absurd h hx)]
      congr 1
      unfold readD; rw [hd]; rfl
theorem crash_same (h : rightB s = true) (hs : s.cache = []) (keep : List Int) : crashD s keep = s := crash_flushed h hs keep
/-- Behind any part of the end of a plan, and a crash. -/
theorem Jr.tail (j : Jr d l s) (h : Ok d l) (hd : d.cache = []) (k : Nat) (keep : List Int) : Jr d l (crashD (runO s (tailOps l) k) keep) ∨ Like (doneD d l) (crashD (runO s (tailOps l) k) keep) := by
  have hlen := h.len
  have hfew := h.few
  unfold tailOps
  rcases Nat.lt_or_ge l.length k with hk | hk
  · rw [run_past j.right (h.body j.len) hk, view_flat j.nil]
    have j2 := j.sets h
    generalize k - (l.length + 1) = m
    have l2 : (setL s.sec l).length = d.sec.length := j2.len
    rcases Nat.lt_or_ge 1 m with hm | hm
    · rw [run_past j2.right (h.head l2 _ (zerosB_size 64)) hm, run_nil]
      have c := j.done h hd
      rw [show viewD ⟨setL s.sec l, []⟩ = setL s.sec l from rfl, crash_same c.right c.nil]
      exact .inr c
    · rw [run_in j2.right (h.head l2 _ (zerosB_size 64)) hm]
      have hr : rightB ⟨setL s.sec l, [] ++ List.take m [(⟨0, zerosB 64⟩ : Wr)]⟩ = true := right_app j2.right (fun x hx => h.head l2 _ (zerosB_size 64) x (List.mem_of_mem_take hx))
      obtain ⟨r1, r2, r3⟩ := crash_right hr keep
      have ca := fun {n : Nat} (hn : n < d.sec.length) => crash_at hr keep (n := n) (by rw [show (Dk.sec ⟨setL s.sec l, [] ++ List.take m [(⟨0, zerosB 64⟩ : Wr)]⟩) = setL s.sec l from rfl, l2]; exact hn)
      show Jr d l (crashD ⟨setL s.sec l, [] ++ List.take m [(⟨0, zerosB 64⟩ : Wr)]⟩ keep) ∨ Like (doneD d l) (crashD ⟨setL s.sec l, [] ++ List.take m [(⟨0, zerosB 64⟩ : Wr)]⟩ keep)
      generalize crashD ⟨setL s.sec l, [] ++ List.take m [(⟨0, zerosB 64⟩ : Wr)]⟩ keep = y at r1 r2 r3 ca ⊢
      have same : ∀ n, n < d.sec.length → n ≠ 0 → atS y.sec n = atS (setL s.sec l) n := fun n hn h0 => by
        rcases ca hn with e | ⟨x, hx, e1, _⟩
        · exact e
        · have hx' := List.mem_of_mem_take (by simpa using hx)
          exact absurd e1 (one_no h0 _ x hx')
      rcases ca (n := 0) (by omega) with e | ⟨x, hx, _, e2⟩
      · refine .inl ⟨r1, r2, r3.trans l2, e.trans j2.head, fun i hi => ?_, fun i h1 h2 => ?_⟩
        · rw [same _ (by omega) (by omega), same _ (by omega) (by omega)]
          exact j2.ent i hi
        · rw [same i h2 (by omega)]; exact j2.rest i h1 h2
      · have hx' := List.mem_of_mem_take (by simpa using hx)
        rw [List.mem_singleton] at hx'
        subst hx'
        have c := j.done h hd
        refine .inr ⟨r1, r2, ?_, ?_, fun i h1 h2 => ?_⟩
        · rw [r3, done_len]; exact l2
        · rw [← e2]; exact zero_no
        · have h2' : i < d.sec.length := by rwa [done_len] at h2
          rw [same i h2' (by omega), ← c.rest i h1 h2]
          show _ = atS (setL (setL s.sec l) _) i
          rw [setL_at (one_nn _) (by rw [l2]; exact h2'), readTo_none (one_no (by omega) _)]
  · rw [run_in j.right (h.body j.len) hk, j.nil]
    have hs : rightB ⟨s.sec, []⟩ = true := by have := j.right; rw [show s = ⟨s.sec, s.cache⟩ from rfl, j.nil] at this; exact this
    have hr : rightB ⟨s.sec, [] ++ l.take k⟩ = true := right_app hs (fun x hx => h.body j.len x (List.mem_of_mem_take hx))
    obtain ⟨r1, r2, r3⟩ := crash_right hr keep
    have ca := fun {n : Nat} (hn : n < d.sec.length) => crash_at hr keep (n := n) (by rw [show (Dk.sec ⟨s.sec, [] ++ l.take k⟩) = s.sec from rfl, j.len]; exact hn)
    generalize crashD ⟨s.sec, [] ++ l.take k⟩ keep = y at r1 r2 r3 ca ⊢
    have same : ∀ n, n < d.sec.length → n < 61 → atS y.sec n = atS s.sec n := fun n hn h0 => by
      rcases ca hn with e | ⟨x, hx, e1, _⟩
      · exact e
      · have hx' := List.mem_of_mem_take (by simpa using hx)
        have := (h.all x hx').1
        omega
    refine .inl ⟨r1, r2, r3.trans j.len, (same 0 (by omega) (by omega)).trans j.head, fun i hi => ?_, fun i h1 h2 => ?_⟩
    · rw [same _ (by omega) (by omega), same _ (by omega) (by omega)]
      exact j.ent i hi
    · rcases ca h2 with e | ⟨x, hx, e1, _⟩
      · rw [e]; exact j.rest i h1 h2
      · exact .inr ⟨x, List.mem_of_mem_take (by simpa using hx), e1⟩
theorem Jr.full (j : Jr d l s) (h : Ok d l) (hd : d.cache = []) : Like (doneD d l) (runO s (tailOps l) (tailOps l).length) := by
  have c := j.done h hd
  have l2 : (setL s.sec l).length = d.sec.length := (j.sets h).len
  rw [run_all, tailOps, fold_group j.right (h.body j.len), view_flat j.nil, fold_group (j.sets h).right (h.head l2 _ (zerosB_size 64))]
  exact c
/-- The journal of l says l. -/
theorem Jr.rep (j : Jr d l s) (h : Ok d l) : repOps s = tailOps l := by
  have hlen := h.len
  have hfew := h.few
  have hmax := (right_parts h.right).2.1
  have e1 : suitsB s = true := by simp only [suitsB, Bool.and_eq_true, decide_eq_true_eq]; exact ⟨by rw [j.len]; exact hlen, j.right⟩
  have e0 : byteAt (atS s.sec 0) 0 = 74 := by rw [j.head]; exact hdr_b0 _ _
  have eN : entN s.sec = l.length := by
    unfold entN
    rw [j.head]
    show (byteAt (hdr l.length _) 1).toNat = _
    rw [hdr_b1, UInt8.toNat_ofNat']; omega
  have hat : ∀ i, i < l.length → ∃ a : Nat, (atW l i).at_ = (a : Int) ∧ 61 ≤ a ∧ a < d.sec.length := fun i hi => by
    obtain ⟨h1, h2, _⟩ := h.all _ (atW_mem hi)
    exact ⟨(atW l i).at_.toNat, by omega, by omega, by omega⟩
  have eW : ∀ i, i < l.length → entWr s.sec i = atW l i ∧ entOk s.sec i = true := fun i hi => by
    obtain ⟨a, ha, h61, hal⟩ := hat i hi
    obtain ⟨q1, q2⟩ := j.ent i hi
    rw [ha, Int.toNat_natCast] at q1
    constructor
    · unfold entWr
      rw [q1, q2, le4_dst a (by omega), ← ha]
    · unfold entOk
      rw [q1, le4_dst a (by omega), decide_eq_true (show 61 ≤ a from h61), decide_eq_true (show a < s.sec.length by rw [j.len]; exact hal), decide_eq_true rfl]; rfl
  have eL : entL s.sec l.length = l := by
    apply List.ext_getElem
    · simp [entL]
    · intro i h1 h2
      simp only [entL, List.getElem_map, List.getElem_range]
      rw [(eW i h2).1, atW, List.getD_eq_getElem?_getD, List.getElem?_eq_getElem h2]; rfl
  have eJ : joinB ((s.sec.drop 1).take (2 * l.length)) = ⟨(allTo l l.length).toArray⟩ := by
    unfold joinB
    rw [join_all s.sec l l.length (Nat.le_refl _) j.ent (by rw [j.len]; omega)]
  have eH : atS s.sec 0 = entHead s.sec := by
    unfold entHead
    rw [eN, eJ, j.head]; rfl
  have eB : entriesB s.sec = true := by
    unfold entriesB
    rw [eN, decide_eq_true (show 1 ≤ l.length from h.pos), decide_eq_true hfew, decide_eq_true eH]
    simp only [Bool.true_and, List.all_eq_true, List.mem_range]
    exact fun i hi => (eW i hi).2
  unfold repOps
  rw [view_flat j.nil, e1, decide_eq_true e0]
  unfold repTail
  rw [if_pos eB, eN, eL]; rfl
theorem Like.rep (k : Like d s) : repOps s = [] := rep_zero (by rw [view_flat k.nil]; exact k.no)
def Three (d : Dk) (l : List Wr) (s : Dk) : Prop := Like d s ∨ Jr d l s ∨ Like (doneD d l) s
theorem three_rep (h : Ok d l) (hd : d.cache = []) (t : Three d l s) (k : Nat) (keep : List Int) : Three d l (crashD (runO s (repOps s) k) keep) := by
  rcases t with t | t | t
  · rw [t.rep, run_nil, crash_same t.right t.nil]; exact .inl t
  · rw [t.rep h]; exact .inr (t.tail h hd k keep)
  · rw [t.rep, run_nil, crash_same t.right t.nil]; exact .inr (.inr t)
theorem three_rec (h : Ok d l) (hd : d.cache = []) (t : Three d l s) : Like d (recD s) ∨ Like (doneD d l) (recD s) := by
  rcases t with t | t | t
  · rw [rec_nil t.rep]; exact .inl t
  · unfold recD; rw [t.rep h]; exact .inr (t.full h hd)
  · rw [rec_nil t.rep]; exact .inr t
theorem ent_at (l : List Wr) : ∀ (k i : Nat), i < k → ∀ s, readTo ((1 + 2 * i : Nat) : Int) s (entW l k) = dst (atW l i).at_.toNat ∧ readTo ((2 + 2 * i : Nat) : Int) s (entW l k) = (atW l i).data
  | 0, _, h, _ => by omega
  | k + 1, i, h, s => by
    rw [entW, readTo_app, readTo_app]
    by_cases e : i = k
    · subst e
      refine ⟨?_, ?_⟩ <;> · simp only [readTo, List.foldl_cons, List.foldl_nil]; split <;> (try split) <;> first | rfl | omega
    · obtain ⟨h1, h2⟩ := ent_at l k i (by omega) s
      rw [h1, h2]
      refine ⟨?_, ?_⟩ <;> · simp only [readTo, List.foldl_cons, List.foldl_nil]; split <;> (try split) <;> first | rfl | omega
theorem ent_zero (l : List Wr) (k : Nat) : ∀ x ∈ entW l k, x.at_ ≠ ((0 : Nat) : Int) := by
  intro x hx
  obtain ⟨k, hk, rfl | rfl⟩ := entW_mem hx
  · simp only; omega
  · simp only; omega
theorem three_plan (h : Ok d l) (hd : d.cache = []) (hn : byteAt (atS d.sec 0) 0 ≠ 74) (k : Nat) (keep : List Int) : Three d l (crashD (runO d (planOps l) k) keep) := by
  have hlen := h.len
  have hfew := h.few
  rw [planOps_eq]
  rcases Nat.lt_or_ge (entW l l.length).length k with hk | hk
  · rw [run_past h.right (h.ent rfl) hk, view_flat hd]
    generalize k - ((entW l l.length).length + 1) = m
    have r1 : rightB ⟨setL d.sec (entW l l.length), []⟩ = true := by have := h.step1; rwa [view_flat hd] at this
    have l1 : (setL d.sec (entW l l.length)).length = d.sec.length := setL_len _ _
    have a61 : ∀ i, 61 ≤ i → i < d.sec.length → atS (setL d.sec (entW l l.length)) i = atS d.sec i := fun i h1 h2 => by
      rw [setL_at (ent_nn _) h2, readTo_none (ent_no h1 h.few)]
    have a0 : atS (setL d.sec (entW l l.length)) 0 = atS d.sec 0 := by rw [setL_at (ent_nn _) (by omega), readTo_none (ent_zero _ _)]
    have aE : ∀ i, i < l.length → atS (setL d.sec (entW l l.length)) (1 + 2 * i) = dst (atW l i).at_.toNat ∧ atS (setL d.sec (entW l l.length)) (2 + 2 * i) = (atW l i).data := fun i hi => by
      rw [setL_at (ent_nn _) (by omega), setL_at (ent_nn _) (by omega)]
      exact ⟨(ent_at l l.length i hi _).1, (ent_at l l.length i hi _).2⟩
    have hH := h.head l1 _ (hdrOf_size l)
    generalize setL d.sec (entW l l.length) = s1 at *
    have jr : ∀ y : Dk, rightB y = true → y.cache = [] → y.sec.length = d.sec.length → atS y.sec 0 = hdrOf l → (∀ n, n < d.sec.length → n ≠ 0 → atS y.sec n = atS s1 n) → Jr d l y := fun y r1 r2 r3 h0 hs =>
      ⟨r1, r2, r3, h0, fun i hi => by rw [hs _ (by omega) (by omega), hs _ (by omega) (by omega)]; exact aE i hi, fun i h1 h2 => .inl (by rw [hs i h2 (by omega)]; exact a61 i h1 h2)⟩
    rcases Nat.lt_or_ge 1 m with hm | hm
    · rw [run_past r1 hH hm]
      have j : Jr d l ⟨setL s1 [⟨0, hdrOf l⟩], []⟩ := jr _ (right_setL r1 hH) rfl (by show (setL s1 _).length = _; rw [setL_len, l1]) (by show atS (setL s1 _) 0 = _; rw [setL_at (one_nn _) (by omega)]; rfl)
        (fun n hn h0 => by show atS (setL s1 _) n = _; rw [setL_at (one_nn _) (by omega), readTo_none (one_no h0 _)])
      exact .inr (j.tail h hd _ keep)
    · rw [run_in r1 hH hm]
      have hr : rightB ⟨s1, [] ++ List.take m [(⟨0, hdrOf l⟩ : Wr)]⟩ = true := right_app r1 (fun x hx => hH x (List.mem_of_mem_take hx))
      obtain ⟨r1, r2, r3⟩ := crash_right hr keep
      have ca := fun {n : Nat} (hn : n < d.sec.length) => crash_at hr keep (n := n) (by rw [show (Dk.sec ⟨s1, [] ++ List.take m [(⟨0, hdrOf l⟩ : Wr)]⟩) = s1 from rfl, l1]; exact hn)
      show Three d l (crashD ⟨s1, [] ++ List.take m [(⟨0, hdrOf l⟩ : Wr)]⟩ keep)
      generalize crashD ⟨s1, [] ++ List.take m [(⟨0, hdrOf l⟩ : Wr)]⟩ keep = y at r1 r2 r3 ca ⊢
      have same : ∀ n, n < d.sec.length → n ≠ 0 → atS y.sec n = atS s1 n := fun n hn h0 => by
        rcases ca hn with e | ⟨x, hx, e1, _⟩
        · exact e
        · have hx' := List.mem_of_mem_take (by simpa using hx)
          exact absurd e1 (one_no h0 _ x hx')
      rcases ca (n := 0) (by omega) with e | ⟨x, hx, _, e2⟩
      · refine .inl ⟨r1, r2, r3.trans l1, ?_, fun i h1 h2 => by rw [same i h2 (by omega)]; exact a61 i h1 h2⟩
        rw [e]; show byteAt (atS s1 0) 0 ≠ 74
        rw [a0]; exact hn
      · have hx' := List.mem_of_mem_take (by simpa using hx)
        rw [List.mem_singleton] at hx'
        subst hx'
        exact .inr (.inl (jr y r1 r2 (r3.trans l1) e2.symm same))
  · rw [run_in h.right (h.ent rfl) hk, hd]
    have hs : rightB ⟨d.sec, []⟩ = true := by have := h.right; rw [show d = ⟨d.sec, d.cache⟩ from rfl, hd] at this; exact this
    have hr : rightB ⟨d.sec, [] ++ (entW l l.length).take k⟩ = true := right_app hs (fun x hx => h.ent rfl x (List.mem_of_mem_take hx))
    obtain ⟨r1, r2, r3⟩ := crash_right hr keep
    have ca := fun {n : Nat} (hn : n < d.sec.length) => crash_at hr keep (n := n) hn
    generalize crashD ⟨d.sec, [] ++ (entW l l.length).take k⟩ keep = y at r1 r2 r3 ca ⊢
    have same : ∀ n, n < d.sec.length → n = 0 ∨ 61 ≤ n → atS y.sec n = atS d.sec n := fun n hn h0 => by
      rcases ca hn with e | ⟨x, hx, e1, _⟩
      · exact e
      · have hx' := List.mem_of_mem_take (by simpa using hx)
        rcases h0 with rfl | h0
        · exact absurd e1 (ent_zero _ _ x hx')
        · exact absurd e1 (ent_no h0 h.few x hx')
    exact .inl ⟨r1, r2, r3, by rw [same 0 (by omega) (.inl rfl)]; exact hn, fun i h1 h2 => same i h2 (.inr h1)⟩
end
end Go.Proofs.YtagpimahicgkmaaDoor
