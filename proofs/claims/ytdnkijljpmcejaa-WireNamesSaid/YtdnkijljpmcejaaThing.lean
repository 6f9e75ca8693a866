/-
  consistorylaw09.Thing: put, may, like.
-/
import Derived.Test.YtdnkijljpmcejaaMeth2
namespace Go.Proofs.Ytdnkijljpmcejaa
open Go.RowKit

/-- A thing; its value in memory: its list lies at a, of capacity c. -/
structure Th where
  k : Int
  n : Int
  s : List UInt8
  l : List Int
  most : Int
def Th.val (t : Th) (a : Option Addr) (c : Nat) : Value := .agg #[.int .u8 t.k, .int .u64 t.n, .string ⟨t.s.toArray⟩, .slice a t.l.length c, .int .i64 t.most]
structure Th.Ok (t : Th) : Prop where
  k : Byte t.k
  n : U64 t.n
  l : ∀ x ∈ t.l, U64 x
  most : I64 t.most
/-- What is put behind bytes. -/
def Th.bytes (t : Th) : List UInt8 :=
  if t.k = 0 then be (t.n % 256).toNat 1 else if t.k = 3 then (if t.s.length ≤ 2048 then bText t.s else []) else if t.k = 4 then (if t.l.length ≤ 1024 then bList t.l else []) else be t.n.toNat 8
theorem Th.bytes_le (t : Th) : t.bytes.length ≤ 8194 := by
  unfold Th.bytes
  split
  · simp [be_length]
  split
  · split
    · rw [bText_length]; omega
    · simp
  split
  · split
    · rw [bList_length]; omega
    · simp
  · simp [be_length]


theorem toU_wrap64 {n : Int} (h : U64 n) : toU (wrap64 n) = n := by
  unfold U64 at h
  unfold toU wrap64
  omega

set_option maxRecDepth 100000 in
set_option maxHeartbeats 400000 in
theorem put_thing0 (t : Th) (a : Option Addr) (c : Nat) (l : List UInt8) (w : World) (ht : t.Ok) (ha : Nums .u64 w w.heap.size a t.l) (hk : t.k = 0) (hl : l.length + 20000 ≤ 140737488355328) :
    Calls Try.prog 26 #[t.val a c, .string ⟨l.toArray⟩] w fun e w' => e = .returned (.string ⟨(l ++ t.bytes).toArray⟩) ∧ Below w.heap.size w w' := by
  obtain ⟨k, n, s, xs, most⟩ := t
  dsimp only at *
  have hn := ht.n
  dsimp only at hn
  have hbytes : Th.bytes ⟨k, n, s, xs, most⟩ = be (n % 256).toNat 1 := by simp [Th.bytes, hk]
  unfold Th.val
  dsimp only
  rw [hbytes]
  clear hbytes
  have hW : Below w.heap.size w (w.alloc (.cells #[.int .u8 k, .int .u64 n, .string ⟨s.toArray⟩, .slice a xs.length c, .int .i64 most] 34)) := (Below.refl _ w).alloc (Nat.le_refl _) _
  try subst hk
  go_enter Try.func26, Try.ntmps26
  go_wp2_with fail
  refine (byte_any l (n % 256) _ (by constructor <;> omega) (by omega)).mono ?_
  rintro e w1 ⟨rfl, b1⟩
  go_wp2_with fail
  go_ret
  exact ⟨rfl, hW.trans (b1.mono hW.size)⟩

set_option maxRecDepth 100000 in
set_option maxHeartbeats 400000 in
theorem put_thing1 (t : Th) (a : Option Addr) (c : Nat) (l : List UInt8) (w : World) (ht : t.Ok) (ha : Nums .u64 w w.heap.size a t.l) (hk : t.k = 1) (hl : l.length + 20000 ≤ 140737488355328) :
    Calls Try.prog 26 #[t.val a c, .string ⟨l.toArray⟩] w fun e w' => e = .returned (.string ⟨(l ++ t.bytes).toArray⟩) ∧ Below w.heap.size w w' := by
  obtain ⟨k, n, s, xs, most⟩ := t
  dsimp only at *
  have hn := ht.n
  dsimp only at hn
  have hbytes : Th.bytes ⟨k, n, s, xs, most⟩ = be n.toNat 8 := by simp [Th.bytes, hk]
  unfold Th.val
  dsimp only
  rw [hbytes]
  clear hbytes
  have hW : Below w.heap.size w (w.alloc (.cells #[.int .u8 k, .int .u64 n, .string ⟨s.toArray⟩, .slice a xs.length c, .int .i64 most] 34)) := (Below.refl _ w).alloc (Nat.le_refl _) _
  try subst hk
  go_enter Try.func26, Try.ntmps26
  go_wp2_with fail
  refine (num_any l n _ hn (by omega)).mono ?_
  rintro e w1 ⟨rfl, b1⟩
  go_wp2_with fail
  go_ret
  exact ⟨rfl, hW.trans (b1.mono hW.size)⟩

set_option maxRecDepth 100000 in
set_option maxHeartbeats 400000 in
theorem put_thing2 (t : Th) (a : Option Addr) (c : Nat) (l : List UInt8) (w : World) (ht : t.Ok) (ha : Nums .u64 w w.heap.size a t.l) (hk : t.k = 2) (hl : l.length + 20000 ≤ 140737488355328) :
    Calls Try.prog 26 #[t.val a c, .string ⟨l.toArray⟩] w fun e w' => e = .returned (.string ⟨(l ++ t.bytes).toArray⟩) ∧ Below w.heap.size w w' := by
  obtain ⟨k, n, s, xs, most⟩ := t
  dsimp only at *
  have hn := ht.n
  dsimp only at hn
  have hbytes : Th.bytes ⟨k, n, s, xs, most⟩ = be (toU (wrap64 n)).toNat 8 := by simp [Th.bytes, hk, toU_wrap64 hn]
  unfold Th.val
  dsimp only
  rw [hbytes]
  clear hbytes
  have hW : Below w.heap.size w (w.alloc (.cells #[.int .u8 k, .int .u64 n, .string ⟨s.toArray⟩, .slice a xs.length c, .int .i64 most] 34)) := (Below.refl _ w).alloc (Nat.le_refl _) _
  try subst hk
  go_enter Try.func26, Try.ntmps26
  go_wp2_with fail
  refine (int_any l (wrap64 n) _ (by omega)).mono ?_
  rintro e w1 ⟨rfl, b1⟩
  go_wp2_with fail
  go_ret
  exact ⟨rfl, hW.trans (b1.mono hW.size)⟩

set_option maxRecDepth 100000 in
set_option maxHeartbeats 400000 in
theorem put_thing3 (t : Th) (a : Option Addr) (c : Nat) (l : List UInt8) (w : World) (ht : t.Ok) (ha : Nums .u64 w w.heap.size a t.l) (hk : t.k = 3) (hs : t.s.length ≤ 2048) (hl : l.length + 20000 ≤ 140737488355328) :
    Calls Try.prog 26 #[t.val a c, .string ⟨l.toArray⟩] w fun e w' => e = .returned (.string ⟨(l ++ t.bytes).toArray⟩) ∧ Below w.heap.size w w' := by
  obtain ⟨k, n, s, xs, most⟩ := t
  dsimp only at *
  have hbytes : Th.bytes ⟨k, n, s, xs, most⟩ = bText s := by simp [Th.bytes, hk, hs]
  unfold Th.val
  dsimp only
  rw [hbytes]
  clear hbytes
  have hW : Below w.heap.size w (w.alloc (.cells #[.int .u8 k, .int .u64 n, .string ⟨s.toArray⟩, .slice a xs.length c, .int .i64 most] 34)) := (Below.refl _ w).alloc (Nat.le_refl _) _
  try subst hk
  go_enter Try.func26, Try.ntmps26
  go_wp2_with fail
  refine (text_ok l s _ hs (by omega)).mono ?_
  rintro e w1 ⟨rfl, b1⟩
  go_wp2_with fail
  go_ret
  exact ⟨rfl, hW.trans (b1.mono hW.size)⟩

set_option maxRecDepth 100000 in
set_option maxHeartbeats 400000 in
theorem put_thing3l (t : Th) (a : Option Addr) (c : Nat) (l : List UInt8) (w : World) (ht : t.Ok) (ha : Nums .u64 w w.heap.size a t.l) (hk : t.k = 3) (hs : ¬ t.s.length ≤ 2048) (hs2 : t.s.length ≤ 9223372036854775807) (_hl : l.length + 20000 ≤ 140737488355328) :
    Calls Try.prog 26 #[t.val a c, .string ⟨l.toArray⟩] w fun e w' => e = .returned (.string ⟨(l ++ t.bytes).toArray⟩) ∧ Below w.heap.size w w' := by
  obtain ⟨k, n, s, xs, most⟩ := t
  dsimp only at *
  have hbytes : Th.bytes ⟨k, n, s, xs, most⟩ = [] := by simp [Th.bytes, hk, hs]
  unfold Th.val
  dsimp only
  rw [hbytes]
  clear hbytes
  have hW : Below w.heap.size w (w.alloc (.cells #[.int .u8 k, .int .u64 n, .string ⟨s.toArray⟩, .slice a xs.length c, .int .i64 most] 34)) := (Below.refl _ w).alloc (Nat.le_refl _) _
  try subst hk
  go_enter Try.func26, Try.ntmps26
  go_wp2_with fail
  refine (text_long l s _ hs hs2).mono ?_
  rintro e w1 ⟨rfl, rfl⟩
  go_wp2_with fail
  go_ret
  exact ⟨by simp, hW⟩

set_option maxRecDepth 100000 in
set_option maxHeartbeats 400000 in
theorem put_thing4 (t : Th) (a : Option Addr) (c : Nat) (l : List UInt8) (w : World) (ht : t.Ok) (ha : Nums .u64 w w.heap.size a t.l) (hk : t.k = 4) (hs : t.l.length ≤ 1024) (hl : l.length + 20000 ≤ 140737488355328) :
    Calls Try.prog 26 #[t.val a c, .string ⟨l.toArray⟩] w fun e w' => e = .returned (.string ⟨(l ++ t.bytes).toArray⟩) ∧ Below w.heap.size w w' := by
  obtain ⟨k, n, s, xs, most⟩ := t
  dsimp only at *
  have hu := ht.l
  dsimp only at hu
  have hbytes : Th.bytes ⟨k, n, s, xs, most⟩ = bList xs := by simp [Th.bytes, hk, hs]
  unfold Th.val
  dsimp only
  rw [hbytes]
  clear hbytes
  have hW : Below w.heap.size w (w.alloc (.cells #[.int .u8 k, .int .u64 n, .string ⟨s.toArray⟩, .slice a xs.length c, .int .i64 most] 34)) := (Below.refl _ w).alloc (Nat.le_refl _) _
  try subst hk
  go_enter Try.func26, Try.ntmps26
  go_wp2_with fail
  refine (list_ok l a c xs _ ((ha.kept hW (Nat.le_refl _)).more hW.size) hu hs (by omega)).mono ?_
  rintro e w1 ⟨rfl, b1⟩
  go_wp2_with fail
  go_ret
  exact ⟨rfl, hW.trans (b1.mono hW.size)⟩

set_option maxRecDepth 100000 in
set_option maxHeartbeats 400000 in
theorem put_thing4l (t : Th) (a : Option Addr) (c : Nat) (l : List UInt8) (w : World) (ht : t.Ok) (ha : Nums .u64 w w.heap.size a t.l) (hk : t.k = 4) (hs : ¬ t.l.length ≤ 1024) (hs2 : t.l.length ≤ 9223372036854775807) (_hl : l.length + 20000 ≤ 140737488355328) :
    Calls Try.prog 26 #[t.val a c, .string ⟨l.toArray⟩] w fun e w' => e = .returned (.string ⟨(l ++ t.bytes).toArray⟩) ∧ Below w.heap.size w w' := by
  obtain ⟨k, n, s, xs, most⟩ := t
  dsimp only at *
  have hbytes : Th.bytes ⟨k, n, s, xs, most⟩ = [] := by simp [Th.bytes, hk, hs]
  unfold Th.val
  dsimp only
  rw [hbytes]
  clear hbytes
  have hW : Below w.heap.size w (w.alloc (.cells #[.int .u8 k, .int .u64 n, .string ⟨s.toArray⟩, .slice a xs.length c, .int .i64 most] 34)) := (Below.refl _ w).alloc (Nat.le_refl _) _
  try subst hk
  go_enter Try.func26, Try.ntmps26
  go_wp2_with fail
  refine (list_long l a c xs.length _ hs hs2).mono ?_
  rintro e w1 ⟨rfl, rfl⟩
  go_wp2_with fail
  go_ret
  exact ⟨by simp, hW⟩

set_option maxRecDepth 100000 in
set_option maxHeartbeats 400000 in
theorem put_thing5 (t : Th) (a : Option Addr) (c : Nat) (l : List UInt8) (w : World) (ht : t.Ok) (ha : Nums .u64 w w.heap.size a t.l) (hk : 5 ≤ t.k) (hl : l.length + 20000 ≤ 140737488355328) :
    Calls Try.prog 26 #[t.val a c, .string ⟨l.toArray⟩] w fun e w' => e = .returned (.string ⟨(l ++ t.bytes).toArray⟩) ∧ Below w.heap.size w w' := by
  obtain ⟨k, n, s, xs, most⟩ := t
  dsimp only at *
  have hn := ht.n
  dsimp only at hn
  have hbytes : Th.bytes ⟨k, n, s, xs, most⟩ = be n.toNat 8 := by
    unfold Th.bytes
    dsimp only
    rw [if_neg (by omega), if_neg (by omega), if_neg (by omega)]
  have k0 : (k == 0) = false := by simp; omega
  have k1 : (k == 1) = false := by simp; omega
  have k2 : (k == 2) = false := by simp; omega
  have k3 : (k == 3) = false := by simp; omega
  have k4 : (k == 4) = false := by simp; omega
  unfold Th.val
  dsimp only
  rw [hbytes]
  clear hbytes
  have hW : Below w.heap.size w (w.alloc (.cells #[.int .u8 k, .int .u64 n, .string ⟨s.toArray⟩, .slice a xs.length c, .int .i64 most] 34)) := (Below.refl _ w).alloc (Nat.le_refl _) _
  try subst hk
  go_enter Try.func26, Try.ntmps26
  go_wp2_with fail
  refine (num_any l n _ hn (by omega)).mono ?_
  rintro e w1 ⟨rfl, b1⟩
  go_wp2_with fail
  go_ret
  exact ⟨rfl, hW.trans (b1.mono hW.size)⟩

/-- What is put behind bytes, whatever the thing is. -/
theorem put_thing (t : Th) (a : Option Addr) (c : Nat) (l : List UInt8) (w : World) (ht : t.Ok) (ha : Nums .u64 w w.heap.size a t.l) (hs2 : t.s.length ≤ 9223372036854775807) (hl2 : t.l.length ≤ 9223372036854775807) (hl : l.length + 20000 ≤ 140737488355328) :
    Calls Try.prog 26 #[t.val a c, .string ⟨l.toArray⟩] w fun e w' => e = .returned (.string ⟨(l ++ t.bytes).toArray⟩) ∧ Below w.heap.size w w' := by
  have h0 := ht.k.1
  by_cases k0 : t.k = 0
  · exact put_thing0 t a c l w ht ha k0 hl
  by_cases k1 : t.k = 1
  · exact put_thing1 t a c l w ht ha k1 hl
  by_cases k2 : t.k = 2
  · exact put_thing2 t a c l w ht ha k2 hl
  by_cases k3 : t.k = 3
  · by_cases hs : t.s.length ≤ 2048
    · exact put_thing3 t a c l w ht ha k3 hs hl
    · exact put_thing3l t a c l w ht ha k3 hs hs2 hl
  by_cases k4 : t.k = 4
  · by_cases hs : t.l.length ≤ 1024
    · exact put_thing4 t a c l w ht ha k4 hs hl
    · exact put_thing4l t a c l w ht ha k4 hs hl2 hl
  exact put_thing5 t a c l w ht ha (by omega) hl
end Go.Proofs.Ytdnkijljpmcejaa
