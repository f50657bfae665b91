/- Plain: operations on a disk, one behind the other; what a commit and a repair leave. -/
import Derived.Test.YtagpimahicgkmaaDoorWalP
import Derived.Test.YtagpimahicgkmaaDoorL9Plain
namespace Go.Proofs.YtagpimahicgkmaaDoor

/-- The disk behind one operation, and behind the first n of a list. -/
def stepO (d : Dk) (o : WOp) : Dk := if o.fl then flushD d else if (putR d o.wr).2 = 0 then (putR d o.wr).1 else d
def runO (d : Dk) (l : List WOp) (n : Nat) : Dk := (l.take n).foldl stepO d
/-- Sectors behind writes. -/
def setL (v : List ByteArray) (ws : List Wr) : List ByteArray := ws.foldl (fun v x => v.set x.at_.toNat x.data) v
def atS (l : List ByteArray) (n : Nat) : ByteArray := l.getD n .empty
def wop (x : Wr) : WOp := ⟨false, x⟩
/-- What a disk's sectors read, pending writes done. -/
def viewD (d : Dk) : List ByteArray := setL d.sec d.cache

theorem setL_len (ws : List Wr) : ∀ v, (setL v ws).length = v.length := by
  induction ws with
  | nil => intro v; rfl
  | cons x ws ih => intro v; show (setL (v.set _ _) ws).length = _; rw [ih, List.length_set]
theorem setL_app (v : List ByteArray) (a b : List Wr) : setL v (a ++ b) = setL (setL v a) b := by simp [setL]
theorem atS_set {l : List ByteArray} {k n : Nat} {s : ByteArray} (hn : n < l.length) : atS (l.set k s) n = if k = n then s else atS l n := by
  unfold atS
  rw [List.getD_eq_getElem?_getD, List.getD_eq_getElem?_getD, List.getElem?_set]
  by_cases h : k = n
  · subst h; simp [hn]
  · simp [h]
theorem setL_at {n : Nat} : ∀ {ws : List Wr} (_ : ∀ x ∈ ws, 0 ≤ x.at_) {v : List ByteArray} (_ : n < v.length), atS (setL v ws) n = readTo n (atS v n) ws
  | [], _, _, _ => rfl
  | x :: ws, h, v, hn => by
    have hx := h x (by simp)
    have ih := setL_at (n := n) (ws := ws) (fun y hy => h y (by simp [hy])) (v := v.set x.at_.toNat x.data) (by simpa using hn)
    show atS (setL (v.set x.at_.toNat x.data) ws) n = _
    rw [ih, atS_set hn]
    show _ = readTo n (if x.at_ = n then x.data else atS v n) ws
    by_cases e : x.at_ = n
    · rw [if_pos e, if_pos (by omega)]
    · rw [if_neg e, if_neg (by omega)]
theorem perfTo_all (l : List ByteArray) (ws : List Wr) : ∀ k, k ≤ ws.length → perfTo l ws (fun _ => true) k = setL l (ws.take k)
  | 0, _ => rfl
  | k + 1, h => by rw [perfTo_yes (by omega) rfl, perfTo_all l ws k (by omega), List.take_succ_eq_append_getElem (by omega), setL_app]; rfl
theorem flushD_view {d : Dk} (h : rightB d = true) : flushD d = ⟨viewD d, []⟩ := by
  unfold flushD perf viewD
  rw [if_pos h, perfTo_all _ _ _ (Nat.le_refl _), List.take_of_length_le (Nat.le_refl _)]
theorem right_flush {d : Dk} (h : rightB d = true) : rightB ⟨viewD d, []⟩ = true := by
  have := right_perf (fun _ => true) h
  rwa [show perf d (fun _ => true) = flushD d by unfold flushD; rw [if_pos h], flushD_view h] at this
theorem view_len (d : Dk) : (viewD d).length = d.sec.length := setL_len _ _
theorem fits_parts {x : Wr} {n : Nat} (h : fitsB x n = true) : 0 ≤ x.at_ ∧ x.at_ < n ∧ x.data.size = 64 := by
  simp only [fitsB, Bool.and_eq_true, decide_eq_true_eq, beq_iff_eq] at h
  exact ⟨h.1.1, h.1.2, h.2⟩
theorem fits_mk {x : Wr} {n : Nat} (h1 : 0 ≤ x.at_) (h2 : x.at_ < n) (h3 : x.data.size = 64) : fitsB x n = true := by
  simp [fitsB, h1, h2, h3]
theorem right_app {d : Dk} {ws : List Wr} (h : rightB d = true) (hf : ∀ x ∈ ws, fitsB x d.sec.length = true) : rightB ⟨d.sec, d.cache ++ ws⟩ = true := by
  simp only [rightB, Bool.and_eq_true] at h ⊢
  refine ⟨h.1, ?_⟩
  rw [List.all_append, h.2, Bool.true_and, List.all_eq_true]
  exact hf
theorem step_w {d : Dk} {x : Wr} (h : rightB d = true) (hf : fitsB x d.sec.length = true) : stepO d (wop x) = ⟨d.sec, d.cache ++ [x]⟩ := by
  simp [stepO, wop, putR, h, hf]
theorem step_n {d : Dk} {x : Wr} (hf : fitsB x d.sec.length = false) : stepO d (wop x) = d := by
  simp [stepO, wop, putR, hf]
theorem step_f {d : Dk} (h : rightB d = true) : stepO d opF = ⟨viewD d, []⟩ := by
  rw [← flushD_view h]; rfl
theorem step_fl {d : Dk} {o : WOp} (h : rightB d = true) (ho : o.fl = true) : stepO d o = ⟨viewD d, []⟩ := by
  rw [← flushD_view h]; unfold stepO; rw [if_pos ho]
theorem step_right {d : Dk} (o : WOp) (h : rightB d = true) : rightB (stepO d o) = true ∧ (stepO d o).sec.length = d.sec.length := by
  obtain ⟨f, x⟩ := o
  cases f with
  | true => rw [step_fl h rfl]; exact ⟨right_flush h, view_len d⟩
  | false =>
    show rightB (stepO d (wop x)) = true ∧ (stepO d (wop x)).sec.length = _
    rcases Bool.eq_false_or_eq_true (fitsB x d.sec.length) with hf | hf
    · rw [step_w h hf]
      exact ⟨right_app (ws := [x]) h (by simpa using hf), rfl⟩
    · rw [step_n hf]; exact ⟨h, rfl⟩
theorem fold_right : ∀ (l : List WOp) {d : Dk}, rightB d = true → rightB (l.foldl stepO d) = true ∧ (l.foldl stepO d).sec.length = d.sec.length
  | [], _, h => ⟨h, rfl⟩
  | o :: l, d, h => by
    obtain ⟨h1, h2⟩ := step_right o h
    obtain ⟨h3, h4⟩ := fold_right l h1
    exact ⟨h3, h4.trans h2⟩
theorem fold_w : ∀ (ws : List Wr) {d : Dk}, rightB d = true → (∀ x ∈ ws, fitsB x d.sec.length = true) → (ws.map wop).foldl stepO d = ⟨d.sec, d.cache ++ ws⟩
  | [], d, _, _ => by simp
  | x :: ws, d, h, hf => by
    have hx := hf x (by simp)
    show (ws.map wop).foldl stepO (stepO d (wop x)) = _
    rw [step_w h hx, fold_w ws (right_app (ws := [x]) h (by simpa using hx)) (fun y hy => hf y (by simp [hy]))]
    simp
theorem run_all (d : Dk) (l : List WOp) : runO d l l.length = l.foldl stepO d := by rw [runO, List.take_length]
theorem run_over (d : Dk) (l : List WOp) {n : Nat} (h : l.length ≤ n) : runO d l n = l.foldl stepO d := by rw [runO, List.take_of_length_le h]
theorem run_nil (d : Dk) (n : Nat) : runO d [] n = d := by simp [runO]
/-- A group of writes, and a flush. -/
theorem run_in {d : Dk} {ws : List Wr} {T : List WOp} {k : Nat} (h : rightB d = true) (hf : ∀ x ∈ ws, fitsB x d.sec.length = true) (hk : k ≤ ws.length) : runO d (ws.map wop ++ T) k = ⟨d.sec, d.cache ++ ws.take k⟩ := by
  unfold runO
  rw [List.take_append_of_le_length (by simpa using hk), ← List.map_take]
  exact fold_w _ h (fun x hx => hf x (List.mem_of_mem_take hx))
theorem run_past {d : Dk} {ws : List Wr} {T : List WOp} {k : Nat} (h : rightB d = true) (hf : ∀ x ∈ ws, fitsB x d.sec.length = true) (hk : ws.length < k) : runO d (ws.map wop ++ opF :: T) k = runO ⟨setL (viewD d) ws, []⟩ T (k - (ws.length + 1)) := by
  obtain ⟨j, rfl⟩ : ∃ j, k = ws.length + 1 + j := ⟨k - (ws.length + 1), by omega⟩
  unfold runO
  rw [List.take_append, List.take_of_length_le (by simp; omega), List.foldl_append, fold_w _ h hf]
  have e : ws.length + 1 + j - (ws.map wop).length = j + 1 := by simp; omega
  rw [e, List.take_succ_cons, List.foldl_cons, step_f (right_app h hf), Nat.add_sub_cancel_left]
  show List.foldl stepO ⟨setL d.sec (d.cache ++ ws), []⟩ _ = _
  rw [setL_app]; rfl
theorem fold_group {d : Dk} {ws : List Wr} {T : List WOp} (h : rightB d = true) (hf : ∀ x ∈ ws, fitsB x d.sec.length = true) : (ws.map wop ++ opF :: T).foldl stepO d = T.foldl stepO ⟨setL (viewD d) ws, []⟩ := by
  rw [List.foldl_append, fold_w _ h hf, List.foldl_cons, step_f (right_app h hf)]
  show List.foldl stepO ⟨setL d.sec (d.cache ++ ws), []⟩ _ = _
  rw [setL_app]; rfl

/-- What a sector reads behind a crash. -/
theorem crash_at {d : Dk} (h : rightB d = true) (keep : List Int) {n : Nat} (hn : n < d.sec.length) : atS (crashD d keep).sec n = atS d.sec n ∨ ∃ x ∈ d.cache, x.at_ = n ∧ x.data = atS (crashD d keep).sec n := by
  have hx : ∀ x ∈ d.cache, 0 ≤ x.at_ := fun x hx => ((right_parts h).2.2.2 x hx).1
  have e : atS (crashD d keep).sec n = rcAt d.sec[n] d.cache (fun (i : Nat) => keep.contains (i : Int)) n d.cache.length := by
    unfold crashD
    rw [if_pos h]
    have := perfTo_get (p := fun (i : Nat) => keep.contains (i : Int)) hx hn
    unfold atS perf
    rw [List.getD_eq_getElem?_getD, List.getElem?_eq_getElem (by rw [perfTo_length]; exact hn)]
    exact this
  have e2 : atS d.sec n = d.sec[n] := by unfold atS; rw [List.getD_eq_getElem?_getD, List.getElem?_eq_getElem hn]; rfl
  rw [e, e2]
  exact rcAt_from _ _ _ _ _ (Nat.le_refl _)
theorem crash_right {d : Dk} (h : rightB d = true) (keep : List Int) : rightB (crashD d keep) = true ∧ (crashD d keep).cache = [] ∧ (crashD d keep).sec.length = d.sec.length := by
  unfold crashD
  rw [if_pos h]
  exact ⟨right_perf _ h, rfl, perfTo_length _ _ _ _⟩

/-- The writes of the entries. -/
def entW (l : List Wr) : Nat → List Wr
  | 0 => []
  | k + 1 => entW l k ++ [⟨1 + 2 * (k : Int), dst (atW l k).at_.toNat⟩, ⟨2 + 2 * (k : Int), (atW l k).data⟩]
theorem entTo_w (l : List Wr) : ∀ k, entTo l k = (entW l k).map wop
  | 0 => rfl
  | k + 1 => by rw [entTo, entW, List.map_append, entTo_w l k]; rfl
def hdrOf (l : List Wr) : ByteArray := hdr l.length ⟨(allTo l l.length).toArray⟩
theorem hdrOf_size (l : List Wr) : (hdrOf l).size = 64 := hdr_size _ _
def tailOps (l : List Wr) : List WOp := l.map wop ++ opF :: ([(⟨0, zerosB 64⟩ : Wr)].map wop ++ opF :: [])
theorem planOps_eq (l : List Wr) : planOps l = (entW l l.length).map wop ++ opF :: ([(⟨0, hdrOf l⟩ : Wr)].map wop ++ opF :: tailOps l) := by
  unfold planOps tailOps
  rw [entTo_w]
  simp [wop, hdrOf]
theorem entW_mem {l : List Wr} : ∀ {k : Nat} {x : Wr}, x ∈ entW l k → ∃ i, i < k ∧ (x = ⟨1 + 2 * (i : Int), dst (atW l i).at_.toNat⟩ ∨ x = ⟨2 + 2 * (i : Int), (atW l i).data⟩)
  | 0, _, h => by cases h
  | k + 1, x, h => by
    rw [entW, List.mem_append] at h
    rcases h with h | h
    · obtain ⟨i, hi, h1⟩ := entW_mem h
      exact ⟨i, by omega, h1⟩
    · simp only [List.mem_cons, List.not_mem_nil, or_false] at h
      exact ⟨k, by omega, h⟩
theorem atW_mem {l : List Wr} {k : Nat} (h : k < l.length) : atW l k ∈ l := by
  unfold atW
  rw [List.getD_eq_getElem?_getD, List.getElem?_eq_getElem h]
  exact List.getElem_mem h
theorem okW_parts {d : Dk} {x : Wr} (h : okW d x = true) : 61 ≤ x.at_ ∧ x.at_ < d.sec.length ∧ x.data.size = 64 := by
  simp only [okW, Bool.and_eq_true, decide_eq_true_eq, beq_iff_eq] at h
  exact ⟨h.1.1, h.1.2, h.2⟩
/-- A transaction that may be. -/
structure Ok (d : Dk) (l : List Wr) : Prop where
  right : rightB d = true
  len : 61 < d.sec.length
  pos : 0 < l.length
  few : l.length ≤ 30
  all : ∀ x ∈ l, 61 ≤ x.at_ ∧ x.at_ < d.sec.length ∧ x.data.size = 64
theorem ok_of {d : Dk} {l : List Wr} (h : planErr d l = 0) : Ok d l := by
  unfold planErr at h
  split at h
  · cases h
  · rename_i h1
    split at h
    · cases h
    · rename_i h2
      split at h
      · cases h
      · rename_i h3
        have hs : suitsB d = true := by
          rcases Bool.eq_false_or_eq_true (suitsB d) with e | e
          · exact e
          · exact absurd (.inl e) h1
        simp only [suitsB, Bool.and_eq_true, decide_eq_true_eq] at hs
        have ha : l.all (okW d) = true := by simpa using h2
        exact ⟨hs.2, hs.1, Nat.pos_of_ne_zero (fun e => h1 (.inr e)), by omega, fun x hx => okW_parts (List.all_eq_true.1 ha x hx)⟩
section
variable {d : Dk} {l : List Wr}
theorem Ok.ent (h : Ok d l) {n : Nat} (hn : n = d.sec.length) : ∀ x ∈ entW l l.length, fitsB x n = true := by
  subst hn
  intro x hx
  obtain ⟨i, hi, rfl | rfl⟩ := entW_mem hx
  · have := h.few; have := h.len
    exact fits_mk (by simp only; omega) (by simp only; omega) (dst_size _)
  · have := h.few; have := h.len
    exact fits_mk (by simp only; omega) (by simp only; omega) (h.all _ (atW_mem hi)).2.2
theorem Ok.body (h : Ok d l) {n : Nat} (hn : n = d.sec.length) : ∀ x ∈ l, fitsB x n = true := by
  subst hn
  intro x hx
  obtain ⟨h1, h2, h3⟩ := h.all x hx
  exact fits_mk (by omega) h2 h3
theorem Ok.head (h : Ok d l) {n : Nat} (hn : n = d.sec.length) (s : ByteArray) (hs : s.size = 64) : ∀ x ∈ [(⟨0, s⟩ : Wr)], fitsB x n = true := by
  subst hn
  intro x hx
  rw [List.mem_singleton] at hx
  subst hx
  have := h.len
  exact fits_mk (by simp only; omega) (by simp only; omega) hs
/-- The disk behind a commit. -/
def doneD (d : Dk) (l : List Wr) : Dk := ⟨setL (setL (setL (setL (viewD d) (entW l l.length)) [⟨0, hdrOf l⟩]) l) [⟨0, zerosB 64⟩], []⟩
theorem Ok.step1 (h : Ok d l) : rightB ⟨setL (viewD d) (entW l l.length), []⟩ = true := by
  have := right_flush (right_app h.right (h.ent rfl))
  rwa [show viewD ⟨d.sec, d.cache ++ entW l l.length⟩ = setL (viewD d) (entW l l.length) from setL_app _ _ _] at this
theorem right_setL {s : List ByteArray} {ws : List Wr} (h : rightB ⟨s, []⟩ = true) (hf : ∀ x ∈ ws, fitsB x s.length = true) : rightB ⟨setL s ws, []⟩ = true := by
  have := right_flush (right_app (d := ⟨s, []⟩) h hf)
  rwa [show viewD ⟨s, [] ++ ws⟩ = setL s ws from rfl] at this
theorem commit_run (h : Ok d l) : runO d (planOps l) (planOps l).length = doneD d l := by
  rw [run_all, planOps_eq]
  have l1 : (setL (viewD d) (entW l l.length)).length = d.sec.length := by rw [setL_len, view_len]
  have r1 := h.step1
  rw [fold_group h.right (h.ent rfl), fold_group r1 (h.head l1 _ (hdrOf_size l))]
  have l2 : (setL (setL (viewD d) (entW l l.length)) [⟨0, hdrOf l⟩]).length = d.sec.length := by rw [setL_len, l1]
  have r2 := right_setL r1 (h.head l1 _ (hdrOf_size l))
  unfold tailOps
  show List.foldl stepO ⟨setL (setL (viewD d) (entW l l.length)) [⟨0, hdrOf l⟩], []⟩ _ = _
  have l3 : (setL (setL (setL (viewD d) (entW l l.length)) [⟨0, hdrOf l⟩]) l).length = d.sec.length := by rw [setL_len, l2]
  have r3 := right_setL r2 (h.body l2)
  rw [fold_group r2 (h.body l2)]
  show List.foldl stepO ⟨setL (setL (setL (viewD d) (entW l l.length)) [⟨0, hdrOf l⟩]) l, []⟩ _ = _
  rw [fold_group r3 (h.head l3 _ (zerosB_size 64))]
  rfl
theorem readTo_app (at_ : Int) (s : ByteArray) (a b : List Wr) : readTo at_ s (a ++ b) = readTo at_ (readTo at_ s a) b := by simp [readTo]
theorem ent_no {i : Nat} (hi : 61 ≤ i) (hf : l.length ≤ 30) : ∀ x ∈ entW l l.length, x.at_ ≠ (i : Int) := by
  intro x hx
  obtain ⟨k, hk, rfl | rfl⟩ := entW_mem hx
  · simp only; omega
  · simp only; omega
theorem ent_nn (k : Nat) : ∀ x ∈ entW l k, 0 ≤ x.at_ := by
  intro x hx
  obtain ⟨k, hk, rfl | rfl⟩ := entW_mem hx
  · simp only; omega
  · simp only; omega
theorem one_no {i : Nat} (hi : i ≠ 0) (s : ByteArray) : ∀ x ∈ [(⟨0, s⟩ : Wr)], x.at_ ≠ (i : Int) := by
  intro x hx
  rw [List.mem_singleton] at hx
  subst hx
  simp only; omega
theorem one_nn (s : ByteArray) : ∀ x ∈ [(⟨0, s⟩ : Wr)], 0 ≤ x.at_ := by
  intro x hx
  rw [List.mem_singleton] at hx
  subst hx
  exact Int.le_refl _
theorem Ok.nn (h : Ok d l) : ∀ x ∈ l, 0 ≤ x.at_ := fun x hx => by have := (h.all x hx).1; omega
theorem view_at {d : Dk} (h : rightB d = true) {i : Nat} (hi : i < d.sec.length) : atS (viewD d) i = readD d i := setL_at (fun x hx => ((right_parts h).2.2.2 x hx).1) hi
theorem done_at (h : Ok d l) {i : Nat} (h1 : 61 ≤ i) (h2 : i < d.sec.length) : atS (doneD d l).sec i = readTo i (readD d i) l := by
  have l1 : (setL (viewD d) (entW l l.length)).length = d.sec.length := by rw [setL_len, view_len]
  have l2 : (setL (setL (viewD d) (entW l l.length)) [⟨0, hdrOf l⟩]).length = d.sec.length := by rw [setL_len, l1]
  have l3 : (setL (setL (setL (viewD d) (entW l l.length)) [⟨0, hdrOf l⟩]) l).length = d.sec.length := by rw [setL_len, l2]
  unfold doneD
  rw [setL_at (one_nn _) (by rw [l3]; exact h2), readTo_none (one_no (by omega) _), setL_at h.nn (by rw [l2]; exact h2), setL_at (one_nn _) (by rw [l1]; exact h2), readTo_none (one_no (by omega) _),
    setL_at (ent_nn _) (by rw [view_len]; exact h2), readTo_none (ent_no h1 h.few), view_at h.right h2]
theorem done_len (d : Dk) (l : List Wr) : (doneD d l).sec.length = d.sec.length := by
  unfold doneD; rw [setL_len, setL_len, setL_len, setL_len, view_len]
theorem done_zero (h : Ok d l) : atS (doneD d l).sec 0 = zerosB 64 := by
  have l3 : (setL (setL (setL (viewD d) (entW l l.length)) [⟨0, hdrOf l⟩]) l).length = d.sec.length := by rw [setL_len, setL_len, setL_len, view_len]
  unfold doneD
  rw [setL_at (one_nn _) (by rw [l3]; have := h.len; omega)]
  rfl
theorem done_right (h : Ok d l) : rightB (doneD d l) = true := by
  rw [← commit_run h, run_all]
  exact (fold_right _ h.right).1
end
end Go.Proofs.YtagpimahicgkmaaDoor
