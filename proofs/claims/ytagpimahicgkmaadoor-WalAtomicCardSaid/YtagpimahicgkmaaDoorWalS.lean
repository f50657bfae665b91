/- Walk: the small functions of wal: write, flush, zeros, header, destination; WriteString. -/
import Derived.Test.YtagpimahicgkmaaDoorSha4
import Derived.Test.YtagpimahicgkmaaDoorDkPlain
import Derived.Test.YtagpimahicgkmaaDoorShelf
namespace Go.Proofs.YtagpimahicgkmaaDoor
open Go.RowKit

/-- (*strings.Builder).WriteString, of the shelf. -/
theorem writeString_any (B b : Nat) (bs : List Value) (s : ByteArray) (w : World) (h : Lib.IsBuilder 87 5 B b bs w) (hlen : bs.length + s.size ≤ 140737488355328) (hBw : B ≤ w.heap.size) :
    Calls Tryd.prog 44 #[.pointer (some ⟨b, 0, none⟩), .string s] w fun e w' => e = .returned (.tuple #[.int .i64 s.size, .nilIface]) ∧ (Lib.BuilderAt 87 5 B b (.pointer (some ⟨b, 0, none⟩)) (bs ++ Lib.strCells s) w' ∧ Below B w w') :=
  Any.Builder_WriteString (P := Tryd.prog) (ρ := Tryd.lays156_ren) { Tryd.lays156 with } Tryd.Builder_Extra_156 B b bs s w h hlen hBw

/-- An operation: a write, or a flush. -/
structure WOp where
  fl : Bool
  wr : Wr
def opC (o : WOp) : List Value := [.bool o.fl, .int .i64 o.wr.at_, .string o.wr.data]
theorem Tryd.elOp : Elem Tryd.prog 33 40 3 32 opC :=
  Elem.of (z := .agg #[.bool false, .int .i64 0, .string ⟨#[]⟩]) (by kernel_rfl) (by kernel_rfl) rfl (by omega) (fun _ => rfl)

theorem opWrite_any (at_ : Int) (s : ByteArray) (w : World) :
    Calls Tryd.prog 45 #[.int .i64 at_, .string s] w fun e w' => e = .returned (.agg #[.bool false, .int .i64 at_, .string s]) ∧ Kept w w' := by
  go_enter Tryd.func45, Tryd.ntmps45
  go_wp2
  refine bodyPost_ret (v := .agg (opC ⟨false, ⟨at_, s⟩⟩).toArray) ?_ rfl ?_
  · exact results_cell_row Tryd.results45 _ _ w.heap.size 40 (opC ⟨false, ⟨at_, s⟩⟩).toArray (0, 0) _ (by rfl) (Own.new w _ (opC ⟨false, ⟨at_, s⟩⟩)) Tryd.underlying40 rfl (by kernel_rfl)
  · exact ⟨rfl, (Kept.refl w).alloc _⟩
theorem opFlush_any (w : World) :
    Calls Tryd.prog 46 #[] w fun e w' => e = .returned (.agg #[.bool true, .int .i64 0, .string ⟨#[]⟩]) ∧ Kept w w' := by
  go_enter Tryd.func46, Tryd.ntmps46
  go_wp2
  refine bodyPost_ret (v := .agg (opC ⟨true, ⟨0, ⟨#[]⟩⟩⟩).toArray) ?_ rfl ?_
  · exact results_cell_row Tryd.results46 _ _ w.heap.size 40 (opC ⟨true, ⟨0, ⟨#[]⟩⟩⟩).toArray (0, 0) _ (by rfl) (Own.new w _ (opC ⟨true, ⟨0, ⟨#[]⟩⟩⟩)) Tryd.underlying40 rfl (by kernel_rfl)
  · exact ⟨rfl, (Kept.refl w).alloc _⟩
def zerosB (n : Nat) : ByteArray := ⟨(List.replicate n 0).toArray⟩
theorem zerosB_size (n : Nat) : (zerosB n).size = n := by show (List.replicate n 0).toArray.size = n; simp
theorem repeat_zero : ∀ n, Lib.repeatL [(0 : UInt8)] n = List.replicate n 0
  | 0 => rfl
  | n + 1 => by rw [Lib.repeatL, repeat_zero n]; rfl
set_option maxHeartbeats 1000000 in
theorem zeros_any (n : Nat) (hn : n ≤ 1000000) (w : World) :
    Calls Tryd.prog 49 #[.int .i64 (n : Int)] w fun e w' => e = .returned (.string (zerosB n)) ∧ Kept w w' := by
  have h0 : (0 : Int) ≤ (n : Int) := by omega
  have hm : max (n : Int) 0 = (n : Int) := by omega
  have HR := Lib.hid (Tryd.strings_Repeat ⟨#[0]⟩ n w (by omega) (by show 1 * n ≤ _; omega))
  have HZ : Hid (zerosB n = ⟨(Lib.repeatL [(0 : UInt8)] n).toArray⟩) := by show _ = _; rw [repeat_zero]; rfl
  go_enter Tryd.func49, Tryd.ntmps49
  go_wp2_with fail
  refine HR.out.mono ?_
  rintro e w1 ⟨rfl, hk⟩
  go_wp2
  go_ret
  exact ⟨by rw [HZ.out]; rfl, hk⟩

/-- A header: of n entries, whose sectors are given. -/
def hdr (n : Nat) (all : ByteArray) : ByteArray := (⟨#[74, UInt8.ofNat n]⟩ ++ shaS all) ++ zerosB 30
theorem hdr_size (n : Nat) (all : ByteArray) : (hdr n all).size = 64 := by
  unfold hdr
  rw [ByteArray.size_append, ByteArray.size_append, shaS_size, zerosB_size]; rfl
theorem conv2 (W : World) (b : Nat) (x : UInt8) (y : Int) (hy : y = (x.toNat : Int)) (h : W.heap[b]? = some (.cells #[.int .u8 74, .int .u8 y] 5 (0, 0))) :
    (convert 85 9 (.slice (some ⟨b, 0, none⟩) 2 2)).run Tryd.prog W = .ok (.string ⟨#[74, x]⟩) W :=
  run_convert_bytes_back (P := Tryd.prog) W 85 9 5 ⟨b, 0, none⟩ 2 [74, x] Tryd.underlying85 Tryd.underlying5 Tryd.underlying9 (fun j hj => by
    subst hy
    have hO : Own W b 5 [.int .u8 74, .int .u8 (x.toNat : Int)] := h
    rw [Addr.add_mid, Nat.zero_add, hO.cell?]
    match j, hj with
    | 0, _ => rfl
    | 1, _ => rfl)
set_option maxHeartbeats 2000000 in
set_option maxRecDepth 100000 in
theorem header_any (n : Nat) (all : ByteArray) (hn : n ≤ 255) (hall : all.size ≤ 1000000) (w : World) (ht : Tabs w) :
    Calls Tryd.prog 47 #[.int .i64 (n : Int), .string all] w fun e w' => e = .returned (.string (hdr n all)) ∧ Kept w w' := by
  have HS : Hid (∀ w1, Kept w w1 → Calls Tryd.prog 80 #[.string all] w1 fun e w' => e = .returned (.string (shaS all)) ∧ Kept w1 w') := fun w1 k => sum_any all w1 (ht.kept k) hall
  have HZ := Lib.hid (zeros_any 30 (by omega))
  have HH : Hid ((⟨#[74, UInt8.ofNat n]⟩ ++ shaS all) ++ zerosB 30 = hdr n all) := rfl
  have hsz : (shaS all).size = 32 := shaS_size all
  have h1 : IntKind.u8.wrap (n : Int) = ((UInt8.ofNat n).toNat : Int) := by rw [UInt8.toNat_ofNat']; show (n : Int) % 256 = _; omega
  generalize hx : UInt8.ofNat n = x at *
  have hcv := fun w' : World => conv2 (w'.alloc (.cells #[.int .u8 74, .int .u8 (IntKind.u8.wrap (n : Int))] 5)) w'.heap.size x _ h1 (heap_alloc_new w' _)
  have hcd := fun w' : World => conv2 (w'.alloc (.cells #[.int .u8 74, .int .u8 (IntKind.u8.wrap (n : Int))] 5)).drew w'.heap.size x _ h1 (heap_alloc_new w' _)
  have H1 := Lib.hid h1
  clear ht hall hx h1
  generalize shaS all = S at *
  go_enter Tryd.func47, Tryd.ntmps47
  go_upto_region 1 with fail
  go_region_with (go_at_call 80; refine (HS.out _ (by first | exact (Kept.refl w).drew | exact ((Kept.refl w).alloc _).drew)).mono ?_; rintro e w1 ⟨rfl, hk⟩; first | (have hcvB := conv2 w1 w.heap.size x _ H1.out ((hk.block w.heap.size (by simp)).trans (heap_alloc_new w _))) | skip)
  all_goals
    go_wp2_with fail
    refine (HZ.out _).mono ?_
    rintro e w2 ⟨rfl, hk2⟩
    have K2 : Kept w w2 := by
      first
        | exact ((((Kept.refl w).alloc _).drew).trans hk).trans hk2
        | exact ((((Kept.refl w).drew).trans hk).alloc _).trans hk2
    clear hk hk2
    go_wp2
    go_ret
    exact ⟨by rw [← HH.out]; rfl, K2⟩
end Go.Proofs.YtagpimahicgkmaaDoor
