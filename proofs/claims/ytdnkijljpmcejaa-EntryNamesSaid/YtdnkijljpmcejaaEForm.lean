/-
  entry.number, none, formed: whether an entry has its form.
-/
import Derived.Test.YtdnkijljpmcejaaEPut
namespace Go.Proofs.Ytdnkijljpmcejaa
open Go.RowKit

def Bl (x : Bool) (w : World) (e : Ending) (w' : World) : Prop := e = .returned (.bool x) ∧ w = w'
set_option maxHeartbeats 400000 in
theorem number_any (n : Int) (w : World) : Calls Try.prog 116 #[.int .i64 n] w (Bl (numB n) w) := by
  by_cases h0 : 0 ≤ n
  · by_cases h1 : n ≤ 1099511627776
    · have e : numB n = true := numB_iff.2 ⟨h0, h1⟩
      rw [e]
      clear e
      go_enter Try.func116, Try.ntmps116
      go_wp2_with fail
      go_ret
      exact ⟨rfl, rfl⟩
    · have e : numB n = false := by rw [Bool.eq_false_iff]; exact fun h => h1 (numB_iff.1 h).2
      have h2 : decide (n ≤ 1099511627776) = false := by simpa using h1
      rw [e]
      clear e h1
      go_enter Try.func116, Try.ntmps116
      go_wp2_with fail
      go_ret
      exact ⟨rfl, rfl⟩
  · have e : numB n = false := by rw [Bool.eq_false_iff]; exact fun h => h0 (numB_iff.1 h).1
    have h2 : decide (0 ≤ n) = false := by simpa using h0
    rw [e]
    clear e h0
    go_enter Try.func116, Try.ntmps116
    go_wp2_with fail
    go_ret
    exact ⟨rfl, rfl⟩

theorem len_pos {α : Type} {l : List α} (h : l ≠ []) : decide (0 < l.length) = true := decide_eq_true (List.length_pos_iff.2 h)
theorem ne_beq {a b : Int} (h : a ≠ b) : (a == b) = false := beq_eq_false_iff_ne.2 h
theorem ne_bne {a b : Int} (h : a ≠ b) : (a != b) = true := by simpa using h

set_option maxRecDepth 100000 in
set_option maxHeartbeats 400000 in
theorem none_1 (i ep : Int) (x : List Int) (cs : List (List Int)) (nx : List Int) (ds : List Dl) (p : Ad) (w : World) (l1 : x.length ≤ 5000) (_l2 : cs.length ≤ 5000) (l3 : nx.length ≤ 5000) (l4 : ds.length ≤ 5000) :
    Calls Try.prog 115 #[.agg #[.int .u8 1, .int .i64 i, .int .i64 ep, .slice p.a1 x.length p.c1, .slice p.a2 cs.length p.c2, .slice p.a3 nx.length p.c3, .slice p.a4 ds.length p.c4]] w (BoolPost (⟨1, i, ep, x, cs, nx, ds⟩ : En).none w) := by
  by_cases h_i : i = 0
  case neg =>
    have e : (⟨1, i, ep, x, cs, nx, ds⟩ : En).none = false := by simp [En.none, h_i]
    rw [e]
    clear e
    have h1 := ne_bne h_i
    have h2 := ne_beq h_i
    clear h_i
    go_enter Try.func115, Try.ntmps115
    go_wp2_with fail
    go_ret
    exact ⟨rfl, (Below.refl _ w).alloc (Nat.le_refl _) _⟩
  subst h_i
  by_cases h_x : x = []
  case neg =>
    have e : (⟨1, 0, ep, x, cs, nx, ds⟩ : En).none = false := by simp [En.none, h_x]
    rw [e]
    clear e
    have h1 := len_pos h_x
    clear h_x
    go_enter Try.func115, Try.ntmps115
    go_wp2_with fail
    go_ret
    exact ⟨rfl, (Below.refl _ w).alloc (Nat.le_refl _) _⟩
  subst h_x
  by_cases h_nx : nx = []
  case neg =>
    have e : (⟨1, 0, ep, [], cs, nx, ds⟩ : En).none = false := by simp [En.none, h_nx]
    rw [e]
    clear e
    have h1 := len_pos h_nx
    clear h_nx
    go_enter Try.func115, Try.ntmps115
    go_wp2_with fail
    go_ret
    exact ⟨rfl, (Below.refl _ w).alloc (Nat.le_refl _) _⟩
  subst h_nx
  by_cases h_ds : ds = []
  case neg =>
    have e : (⟨1, 0, ep, [], cs, [], ds⟩ : En).none = false := by simp [En.none, h_ds]
    rw [e]
    clear e
    have h1 := len_pos h_ds
    clear h_ds
    go_enter Try.func115, Try.ntmps115
    go_wp2_with fail
    go_ret
    exact ⟨rfl, (Below.refl _ w).alloc (Nat.le_refl _) _⟩
  subst h_ds
  by_cases h_ep : ep = 0
  case neg =>
    have e : (⟨1, 0, ep, [], cs, [], []⟩ : En).none = false := by simp [En.none, h_ep]
    rw [e]
    clear e
    have h1 := ne_bne h_ep
    have h2 := ne_beq h_ep
    clear h_ep
    go_enter Try.func115, Try.ntmps115
    go_wp2_with fail
    go_ret
    exact ⟨rfl, (Below.refl _ w).alloc (Nat.le_refl _) _⟩
  subst h_ep
  have e : (⟨1, 0, 0, [], cs, [], []⟩ : En).none = true := by simp [En.none]
  rw [e]
  clear e
  go_enter Try.func115, Try.ntmps115
  go_wp2_with fail
  go_ret
  exact ⟨rfl, (Below.refl _ w).alloc (Nat.le_refl _) _⟩

set_option maxRecDepth 100000 in
set_option maxHeartbeats 400000 in
theorem none_2 (i ep : Int) (x : List Int) (cs : List (List Int)) (nx : List Int) (ds : List Dl) (p : Ad) (w : World) (_l1 : x.length ≤ 5000) (l2 : cs.length ≤ 5000) (l3 : nx.length ≤ 5000) (l4 : ds.length ≤ 5000) :
    Calls Try.prog 115 #[.agg #[.int .u8 2, .int .i64 i, .int .i64 ep, .slice p.a1 x.length p.c1, .slice p.a2 cs.length p.c2, .slice p.a3 nx.length p.c3, .slice p.a4 ds.length p.c4]] w (BoolPost (⟨2, i, ep, x, cs, nx, ds⟩ : En).none w) := by
  by_cases h_cs : cs = []
  case neg =>
    have e : (⟨2, i, ep, x, cs, nx, ds⟩ : En).none = false := by simp [En.none, h_cs]
    rw [e]
    clear e
    have h1 := len_pos h_cs
    clear h_cs
    go_enter Try.func115, Try.ntmps115
    go_wp2_with fail
    go_ret
    exact ⟨rfl, (Below.refl _ w).alloc (Nat.le_refl _) _⟩
  subst h_cs
  by_cases h_nx : nx = []
  case neg =>
    have e : (⟨2, i, ep, x, [], nx, ds⟩ : En).none = false := by simp [En.none, h_nx]
    rw [e]
    clear e
    have h1 := len_pos h_nx
    clear h_nx
    go_enter Try.func115, Try.ntmps115
    go_wp2_with fail
    go_ret
    exact ⟨rfl, (Below.refl _ w).alloc (Nat.le_refl _) _⟩
  subst h_nx
  by_cases h_ds : ds = []
  case neg =>
    have e : (⟨2, i, ep, x, [], [], ds⟩ : En).none = false := by simp [En.none, h_ds]
    rw [e]
    clear e
    have h1 := len_pos h_ds
    clear h_ds
    go_enter Try.func115, Try.ntmps115
    go_wp2_with fail
    go_ret
    exact ⟨rfl, (Below.refl _ w).alloc (Nat.le_refl _) _⟩
  subst h_ds
  by_cases h_ep : ep = 0
  case neg =>
    have e : (⟨2, i, ep, x, [], [], []⟩ : En).none = false := by simp [En.none, h_ep]
    rw [e]
    clear e
    have h1 := ne_bne h_ep
    have h2 := ne_beq h_ep
    clear h_ep
    go_enter Try.func115, Try.ntmps115
    go_wp2_with fail
    go_ret
    exact ⟨rfl, (Below.refl _ w).alloc (Nat.le_refl _) _⟩
  subst h_ep
  have e : (⟨2, i, 0, x, [], [], []⟩ : En).none = true := by simp [En.none]
  rw [e]
  clear e
  go_enter Try.func115, Try.ntmps115
  go_wp2_with fail
  go_ret
  exact ⟨rfl, (Below.refl _ w).alloc (Nat.le_refl _) _⟩

set_option maxRecDepth 100000 in
set_option maxHeartbeats 400000 in
theorem none_3 (i ep : Int) (x : List Int) (cs : List (List Int)) (nx : List Int) (ds : List Dl) (p : Ad) (w : World) (l1 : x.length ≤ 5000) (l2 : cs.length ≤ 5000) (_l3 : nx.length ≤ 5000) (l4 : ds.length ≤ 5000) :
    Calls Try.prog 115 #[.agg #[.int .u8 3, .int .i64 i, .int .i64 ep, .slice p.a1 x.length p.c1, .slice p.a2 cs.length p.c2, .slice p.a3 nx.length p.c3, .slice p.a4 ds.length p.c4]] w (BoolPost (⟨3, i, ep, x, cs, nx, ds⟩ : En).none w) := by
  by_cases h_i : i = 0
  case neg =>
    have e : (⟨3, i, ep, x, cs, nx, ds⟩ : En).none = false := by simp [En.none, h_i]
    rw [e]
    clear e
    have h1 := ne_bne h_i
    have h2 := ne_beq h_i
    clear h_i
    go_enter Try.func115, Try.ntmps115
    go_wp2_with fail
    go_ret
    exact ⟨rfl, (Below.refl _ w).alloc (Nat.le_refl _) _⟩
  subst h_i
  by_cases h_x : x = []
  case neg =>
    have e : (⟨3, 0, ep, x, cs, nx, ds⟩ : En).none = false := by simp [En.none, h_x]
    rw [e]
    clear e
    have h1 := len_pos h_x
    clear h_x
    go_enter Try.func115, Try.ntmps115
    go_wp2_with fail
    go_ret
    exact ⟨rfl, (Below.refl _ w).alloc (Nat.le_refl _) _⟩
  subst h_x
  by_cases h_cs : cs = []
  case neg =>
    have e : (⟨3, 0, ep, [], cs, nx, ds⟩ : En).none = false := by simp [En.none, h_cs]
    rw [e]
    clear e
    have h1 := len_pos h_cs
    clear h_cs
    go_enter Try.func115, Try.ntmps115
    go_wp2_with fail
    go_ret
    exact ⟨rfl, (Below.refl _ w).alloc (Nat.le_refl _) _⟩
  subst h_cs
  by_cases h_ds : ds = []
  case neg =>
    have e : (⟨3, 0, ep, [], [], nx, ds⟩ : En).none = false := by simp [En.none, h_ds]
    rw [e]
    clear e
    have h1 := len_pos h_ds
    clear h_ds
    go_enter Try.func115, Try.ntmps115
    go_wp2_with fail
    go_ret
    exact ⟨rfl, (Below.refl _ w).alloc (Nat.le_refl _) _⟩
  subst h_ds
  have e : (⟨3, 0, ep, [], [], nx, []⟩ : En).none = true := by simp [En.none]
  rw [e]
  clear e
  go_enter Try.func115, Try.ntmps115
  go_wp2_with fail
  all_goals
    go_ret
    exact ⟨rfl, (Below.refl _ w).alloc (Nat.le_refl _) _⟩

set_option maxRecDepth 100000 in
set_option maxHeartbeats 400000 in
theorem none_4 (i ep : Int) (x : List Int) (cs : List (List Int)) (nx : List Int) (ds : List Dl) (p : Ad) (w : World) (l1 : x.length ≤ 5000) (l2 : cs.length ≤ 5000) (l3 : nx.length ≤ 5000) (_l4 : ds.length ≤ 5000) :
    Calls Try.prog 115 #[.agg #[.int .u8 4, .int .i64 i, .int .i64 ep, .slice p.a1 x.length p.c1, .slice p.a2 cs.length p.c2, .slice p.a3 nx.length p.c3, .slice p.a4 ds.length p.c4]] w (BoolPost (⟨4, i, ep, x, cs, nx, ds⟩ : En).none w) := by
  by_cases h_i : i = 0
  case neg =>
    have e : (⟨4, i, ep, x, cs, nx, ds⟩ : En).none = false := by simp [En.none, h_i]
    rw [e]
    clear e
    have h1 := ne_bne h_i
    have h2 := ne_beq h_i
    clear h_i
    go_enter Try.func115, Try.ntmps115
    go_wp2_with fail
    go_ret
    exact ⟨rfl, (Below.refl _ w).alloc (Nat.le_refl _) _⟩
  subst h_i
  by_cases h_x : x = []
  case neg =>
    have e : (⟨4, 0, ep, x, cs, nx, ds⟩ : En).none = false := by simp [En.none, h_x]
    rw [e]
    clear e
    have h1 := len_pos h_x
    clear h_x
    go_enter Try.func115, Try.ntmps115
    go_wp2_with fail
    go_ret
    exact ⟨rfl, (Below.refl _ w).alloc (Nat.le_refl _) _⟩
  subst h_x
  by_cases h_cs : cs = []
  case neg =>
    have e : (⟨4, 0, ep, [], cs, nx, ds⟩ : En).none = false := by simp [En.none, h_cs]
    rw [e]
    clear e
    have h1 := len_pos h_cs
    clear h_cs
    go_enter Try.func115, Try.ntmps115
    go_wp2_with fail
    go_ret
    exact ⟨rfl, (Below.refl _ w).alloc (Nat.le_refl _) _⟩
  subst h_cs
  by_cases h_nx : nx = []
  case neg =>
    have e : (⟨4, 0, ep, [], [], nx, ds⟩ : En).none = false := by simp [En.none, h_nx]
    rw [e]
    clear e
    have h1 := len_pos h_nx
    clear h_nx
    go_enter Try.func115, Try.ntmps115
    go_wp2_with fail
    go_ret
    exact ⟨rfl, (Below.refl _ w).alloc (Nat.le_refl _) _⟩
  subst h_nx
  have e : (⟨4, 0, ep, [], [], [], ds⟩ : En).none = true := by simp [En.none]
  rw [e]
  clear e
  go_enter Try.func115, Try.ntmps115
  go_wp2_with fail
  all_goals
    go_ret
    exact ⟨rfl, (Below.refl _ w).alloc (Nat.le_refl _) _⟩

set_option maxHeartbeats 400000 in
theorem form1_any (n : Int) (w : World) : Calls Try.prog 118 #[.int .i64 n] w (Bl (!numB n) w) := by
  go_enter Try.func118, Try.ntmps118
  go_wp2_with fail
  refine (number_any n w).mono ?_
  rintro e w' ⟨rfl, rfl⟩
  go_wp2_with fail
  go_ret
  exact ⟨rfl, rfl⟩
theorem all_take {α : Type} {f : α → Bool} {l : List α} {j : Nat} {x : α} (h : l[j]? = some x) : (l.take (j + 1)).all f = ((l.take j).all f && f x) := by
  rw [List.take_add_one, h, List.all_append]
  simp
theorem all_not {α : Type} {f : α → Bool} {l : List α} {j : Nat} {x : α} (h : l[j]? = some x) (hf : f x = false) : l.all f = false := by
  rw [List.all_eq_false]
  exact ⟨x, List.mem_of_getElem? h, by simp [hf]⟩
/-- Which is the first that may not be. -/
def IdxPost (b : Bool) (w : World) (e : Ending) (w' : World) : Prop := ∃ r : Int, e = .returned (.int .i64 r) ∧ decide (0 ≤ r) = b ∧ Below w.heap.size w w'
set_option maxRecDepth 100000 in
set_option maxHeartbeats 400000 in
theorem index_any (a : Option Addr) (c : Nat) (l : List Int) (w : World) (hx : Nums .i64 w w.heap.size a l) (hl : l.length ≤ 5000) :
    Calls Try.prog 129 #[.slice a l.length c, .func (.func 118) #[] #[]] w (IdxPost (!l.all numB) w) := by
  go_enter Try.func129, Try.ntmps129
  go_wp2_with fail
  go_loopw [8] (fun v wr => ∃ j : Nat, j ≤ l.length ∧ v = .int .i64 j ∧ (l.take j).all numB = true ∧ Below w.heap.size w wr) (fun v _ => l.length - (intOf v).toNat)
  case atStart => exact ⟨0, Nat.zero_le _, rfl, rfl, Below.refl _ _⟩
  case round =>
    obtain ⟨j, hj, rfl, ha, hB⟩ := hrel
    by_cases hlt : j < l.length
    · obtain ⟨x, hxj⟩ : ∃ x, l[j]? = some x := ⟨_, List.getElem?_eq_getElem hlt⟩
      have hjI : (j : Int) < (l.length : Int) := by omega
      rcases hx.kept hB (Nat.le_refl _) with h0 | ⟨b, o, rfl, hbl, hc⟩
      · rw [h0] at hlt; simp at hlt
      have hcell := hc j x hxj
      have HX := Lib.hid (And.intro hxj ha)
      clear hxj hc ha
      go_wp2_with fail
      refine (form1_any x wr).mono ?_
      rintro e w3 ⟨rfl, rfl⟩
      by_cases hn : numB x = true
      · have HN := Lib.hid hn
        rw [hn]
        clear hn
        go_wp2_with fail
        go_roundw
        case rel => exact ⟨j + 1, by omega, by go_num, by rw [all_take HX.out.1, HX.out.2, HN.out]; rfl, hB⟩
        case measure => simp [intOf]; omega
      · have hn : numB x = false := by simpa using hn
        have HN := Lib.hid hn
        rw [hn]
        clear hn
        go_wp2_with fail
        go_ret
        exact ⟨j, rfl, by rw [all_not HX.out.1 HN.out]; simp, hB⟩
    · have hje : j = l.length := by omega
      subst hje
      rw [List.take_length] at ha
      have HA := Lib.hid ha
      clear ha
      go_wp2_with fail
      go_ret
      exact ⟨-1, rfl, by rw [HA.out]; rfl, hB⟩
set_option maxHeartbeats 400000 in
theorem contains_any (a : Option Addr) (c : Nat) (l : List Int) (w : World) (hx : Nums .i64 w w.heap.size a l) (hl : l.length ≤ 5000) :
    Calls Try.prog 117 #[.slice a l.length c, .func (.func 118) #[] #[]] w (BoolPost (!l.all numB) w) := by
  go_enter Try.func117, Try.ntmps117
  go_wp2_with fail
  refine (index_any a c l w hx hl).mono ?_
  rintro e w1 ⟨r, rfl, hr, b1⟩
  have HR := Lib.hid hr
  clear hr
  go_wp2_with fail
  all_goals
    go_ret
    exact ⟨ret_bool HR.out, b1⟩

end Go.Proofs.Ytdnkijljpmcejaa
