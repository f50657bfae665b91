/- SHA-256 in plain Lean, as the program computes it. -/
import Derived.Test.YtagpimahicgkmaaDoorU32
import Derived.Laws.IdiomCopy
import Derived.Deep.MidRow
namespace Go.Proofs.YtagpimahicgkmaaDoor
open Go.RowKit

def byteAt (s : ByteArray) (n : Nat) : UInt8 := s.data.toList.getD n 0
def word4 (a b c d : UInt8) : UInt32 := ((a.toUInt32 <<< 24 ||| b.toUInt32 <<< 16) ||| c.toUInt32 <<< 8) ||| d.toUInt32
def wordAt (s : ByteArray) (i : Nat) : UInt32 := word4 (byteAt s (4 * i)) (byteAt s (4 * i + 1)) (byteAt s (4 * i + 2)) (byteAt s (4 * i + 3))
def sig0 (x : UInt32) : UInt32 := (rotr x 7 ^^^ rotr x 18) ^^^ x >>> 3
def sig1 (x : UInt32) : UInt32 := (rotr x 17 ^^^ rotr x 19) ^^^ x >>> 10
def at32 (l : List UInt32) (i : Nat) : UInt32 := l.getD i 0
def nextW (s : ByteArray) (l : List UInt32) (k : Nat) : UInt32 :=
  if k < 16 then wordAt s k else ((at32 l (k - 16) + sig0 (at32 l (k - 15))) + at32 l (k - 7)) + sig1 (at32 l (k - 2))
/-- The words of a block, the first k of them. -/
def schTo (s : ByteArray) : Nat → List UInt32
  | 0 => List.replicate 64 0
  | k + 1 => (schTo s k).set k (nextW s (schTo s k) k)
theorem schTo_len (s : ByteArray) : ∀ k, (schTo s k).length = 64
  | 0 => by simp [schTo]
  | k + 1 => by rw [schTo, List.length_set, schTo_len]
def sched (s : ByteArray) : List UInt32 := schTo s 64
theorem sched_len (s : ByteArray) : (sched s).length = 64 := schTo_len s 64
def wv (l : List UInt32) : List Value := l.map u32v
theorem wv_len (l : List UInt32) : (wv l).length = l.length := by simp [wv]
theorem wv_set (l : List UInt32) (k : Nat) (x : UInt32) : wv (l.set k x) = (wv l).set k (u32v x) := by simp [wv, List.map_set]
theorem wv_at {l : List UInt32} {k : Nat} (h : k < l.length) : (wv l)[k]? = some (u32v (at32 l k)) := by simp [wv, at32, h]
theorem byteAt_lt {s : ByteArray} {n : Nat} (h : n < s.size) : byteAt s n = s[n] := by
  unfold byteAt
  have h' : n < s.data.toList.length := by simpa using h
  rw [List.getD_eq_getElem?_getD, List.getElem?_eq_getElem h']
  rfl
theorem byte_u32 (a : UInt8) : (a.toNat : Int) % 4294967296 = (a.toUInt32.toNat : Int) := by
  rw [UInt8.toNat_toUInt32]; have := a.toNat_lt; omega
theorem shl24 (x : UInt32) : (x.toNat : Int) * 16777216 % 4294967296 = ((x <<< (24 : UInt32)).toNat : Int) := by have := ushl x 24 (by decide); rw [IntKind.wrap_u32'] at this; exact this
theorem shl16 (x : UInt32) : (x.toNat : Int) * 65536 % 4294967296 = ((x <<< (16 : UInt32)).toNat : Int) := by have := ushl x 16 (by decide); rw [IntKind.wrap_u32'] at this; exact this
theorem shl8 (x : UInt32) : (x.toNat : Int) * 256 % 4294967296 = ((x <<< (8 : UInt32)).toNat : Int) := by have := ushl x 8 (by decide); rw [IntKind.wrap_u32'] at this; exact this
theorem word_bits (a b c d : UInt8) : bits .or .u32 (bits .or .u32 (bits .or .u32 ((a.toNat : Int) % 4294967296 * 16777216 % 4294967296) ((b.toNat : Int) % 4294967296 * 65536 % 4294967296)) ((c.toNat : Int) % 4294967296 * 256 % 4294967296)) ((d.toNat : Int) % 4294967296) = ((word4 a b c d).toNat : Int) := by
  rw [byte_u32, byte_u32, byte_u32, byte_u32, shl24, shl16, shl8, uor, uor, uor]; rfl
theorem shr3 (x : UInt32) : (x.toNat : Int) / 8 = ((x >>> (3 : UInt32)).toNat : Int) := ushr x 3 (by decide)
theorem shr10 (x : UInt32) : (x.toNat : Int) / 1024 = ((x >>> (10 : UInt32)).toNat : Int) := ushr x 10 (by decide)

theorem sig0_bits (x : UInt32) : bits .xor .u32 (bits .xor .u32 ((rotr x 7).toNat : Int) ((rotr x 18).toNat : Int)) ((x.toNat : Int) / 8) = ((sig0 x).toNat : Int) := by
  rw [shr3, uxor, uxor]; rfl
theorem sig1_bits (x : UInt32) : bits .xor .u32 (bits .xor .u32 ((rotr x 17).toNat : Int) ((rotr x 19).toNat : Int)) ((x.toNat : Int) / 1024) = ((sig1 x).toNat : Int) := by
  rw [shr10, uxor, uxor]; rfl

/-! A whole array is stored. -/
theorem Own.setCells {g : Nat} {t : TypeId} : ∀ (vs : List Value) (o : Nat) {w : World} {cs : List Value}, Own w g t cs → o + vs.length ≤ cs.length → Own (w.setCells g o vs) g t (cs.take o ++ vs ++ cs.drop (o + vs.length))
  | [], o, w, cs, h, _ => by simpa [World.setCells] using h
  | v :: r, o, w, cs, h, hl => by
    rw [List.length_cons] at hl
    have := Own.setCells r (o + 1) (h.set_ o v) (by rw [List.length_set]; omega)
    rw [World.setCells]
    have e : (cs.set o v).take (o + 1) ++ r ++ (cs.set o v).drop (o + 1 + r.length) = cs.take o ++ v :: r ++ cs.drop (o + (v :: r).length) := by
      rw [List.drop_set_of_lt (by omega), List.take_succ_eq_append_getElem (by rw [List.length_set]; omega), List.getElem_set_self, List.take_set_of_le (Nat.le_refl _), List.length_cons, show o + 1 + r.length = o + (r.length + 1) by omega]
      simp
    rw [e] at this
    exact this
theorem Own.setAll {w : World} {g : Nat} {t : TypeId} {cs vs : List Value} (h : Own w g t cs) (hl : vs.length = cs.length) : Own (w.setCells g 0 vs) g t vs := by
  have := Own.setCells vs 0 h (by omega)
  rw [List.take_zero, List.nil_append, List.drop_of_length_le (by omega), List.append_nil] at this
  exact this
theorem Own.farAll {g g' : Nat} {t : TypeId} {cs : List Value} (hne : g ≠ g') : ∀ (vs : List Value) (o : Nat) {w : World}, Own w g t cs → Own (w.setCells g' o vs) g t cs
  | [], _, _, h => h
  | v :: r, o, w, h => Own.farAll hne r (o + 1) (h.far (p := ⟨g', o, none⟩) hne v)
theorem Kept.setCells {a : World} {g : Nat} (hg : a.heap.size ≤ g) : ∀ (vs : List Value) (o : Nat) {b : World}, Kept a b → Kept a (b.setCells g o vs)
  | [], _, _, h => h
  | v :: r, o, b, h => Kept.setCells hg r (o + 1) (h.setCell (p := ⟨g, o, none⟩) hg v)
theorem Own.there {w : World} {g : Nat} {t : TypeId} {cs : List Value} (h : Own w g t cs) {n : Nat} (hn : n = cs.length) : w.there g 0 n := fun j hj => by
  rw [Nat.zero_add]
  exact ⟨by rw [h.cell?, List.getElem?_eq_getElem (by omega)]; rfl, h.frozen j⟩
theorem wv_one (l : List UInt32) : (wv l).toArray.all (·.oneCell') = true := by
  rw [Array.all_eq_true_iff_forall_mem]
  intro x hx
  simp only [List.mem_toArray, wv, List.mem_map] at hx
  obtain ⟨y, _, rfl⟩ := hx
  rfl
/-! The constants, and the rounds. -/
def K64 : List UInt32 := [1116352408, 1899447441, 3049323471, 3921009573, 961987163, 1508970993, 2453635748, 2870763221, 3624381080, 310598401, 607225278, 1426881987, 1925078388, 2162078206, 2614888103, 3248222580, 3835390401, 4022224774, 264347078, 604807628, 770255983, 1249150122, 1555081692, 1996064986, 2554220882, 2821834349, 2952996808, 3210313671, 3336571891, 3584528711, 113926993, 338241895, 666307205, 773529912, 1294757372, 1396182291, 1695183700, 1986661051, 2177026350, 2456956037, 2730485921, 2820302411, 3259730800, 3345764771, 3516065817, 3600352804, 4094571909, 275423344, 430227734, 506948616, 659060556, 883997877, 958139571, 1322822218, 1537002063, 1747873779, 1955562222, 2024104815, 2227730452, 2361852424, 2428436474, 2756734187, 3204031479, 3329325298]
theorem K64_len : K64.length = 64 := rfl
structure St where
  a : UInt32
  b : UInt32
  c : UInt32
  d : UInt32
  e : UInt32
  f : UInt32
  g : UInt32
  h : UInt32
def st0 : St := ⟨1779033703, 3144134277, 1013904242, 2773480762, 1359893119, 2600822924, 528734635, 1541459225⟩
def stv (s : St) : List Value := [u32v s.a, u32v s.b, u32v s.c, u32v s.d, u32v s.e, u32v s.f, u32v s.g, u32v s.h]
def sum1 (e : UInt32) : UInt32 := (rotr e 6 ^^^ rotr e 11) ^^^ rotr e 25
def sum0 (a : UInt32) : UInt32 := (rotr a 2 ^^^ rotr a 13) ^^^ rotr a 22
def chose (e f g : UInt32) : UInt32 := (e &&& f) ^^^ (~~~e &&& g)
def majo (a b c : UInt32) : UInt32 := ((a &&& b) ^^^ (a &&& c)) ^^^ (b &&& c)
def tmp1 (k w : UInt32) (s : St) : UInt32 := s.h + sum1 s.e + chose s.e s.f s.g + k + w
def tmp2 (s : St) : UInt32 := sum0 s.a + majo s.a s.b s.c
def rnd (k w : UInt32) (s : St) : St := ⟨tmp1 k w s + tmp2 s, s.a, s.b, s.c, s.d + tmp1 k w s, s.e, s.f, s.g⟩
def rndTo (W : List UInt32) (s : St) : Nat → St
  | 0 => s
  | i + 1 => rnd (at32 K64 i) (at32 W i) (rndTo W s i)
def addSt (s t : St) : St := ⟨s.a + t.a, s.b + t.b, s.c + t.c, s.d + t.d, s.e + t.e, s.f + t.f, s.g + t.g, s.h + t.h⟩
def blockSt (s : St) (b : ByteArray) : St := addSt s (rndTo (sched b) s 64)
/-- The tables, where the program keeps them. -/
structure Tab (w : World) (g : Nat) (cs : List Value) : Prop where
  lt : g < w.heap.size
  cell? : ∀ i, w.cell? ⟨g, i, none⟩ = cs[i]?
theorem Tab.kept {w w' : World} {g : Nat} {cs : List Value} (h : Tab w g cs) (k : Kept w w') : Tab w' g cs := ⟨Nat.lt_of_lt_of_le h.lt k.size, fun i => (k.cell (p := ⟨g, i, none⟩) h.lt).trans (h.cell? i)⟩
structure Tabs (w : World) : Prop where
  ini : Tab w 0 (stv st0)
  rou : Tab w 1 (wv K64)
theorem Tabs.kept {w w' : World} (h : Tabs w) (k : Kept w w') : Tabs w' := ⟨h.ini.kept k, h.rou.kept k⟩
theorem run_index_arr {P : Program} (w : World) (t e : TypeId) (n : Nat) (L : List UInt32) (k : Nat) (hu : P.underlying t = some (.array n e)) (ha : ∀ w, (isAgg e).run P w = .ok false w) (hz : ∀ w, (sizeOf e).run P w = .ok 1 w) (hk : k < L.length) (hn : k < n) :
    (Instr.index t (.agg (wv L).toArray) (.int .i64 (k : Int))).run P w = .ok (u32v (at32 L k)) w := by
  have hc : (wv L)[k]? = some (u32v (at32 L k)) := wv_at hk
  have h0 : (0 : Int) ≤ (k : Int) ∧ (k : Int) < (n : Int) := ⟨by omega, by omega⟩
  simp [Instr.index, asIntOf, run_underlying hu, part, ha, hz, hc, h0]
  omega
theorem Tryd.szU32 : ∀ w, (sizeOf 163).run Tryd.prog w = .ok 1 w := fun w => by
  obtain ⟨i, hi, _, hsz, _⟩ := info_parts (show (Tryd.prog.info? 163).map (fun i => (i.zero, i.size, i.bytes)) = some (some (.int .u32 0), 1, 4) by kernel_rfl)
  simp [sizeOf, typeInfo, hi, hsz]
end Go.Proofs.YtagpimahicgkmaaDoor
