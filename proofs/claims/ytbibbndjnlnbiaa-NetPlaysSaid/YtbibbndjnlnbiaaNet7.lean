/-
  net.To, consistoryref10.Ints.
-/
import Derived.Test.YtbibbndjnlnbiaaNet6
namespace Go.Proofs.Ytbibbndjnlnbiaa
open Go.RowKit Go.Maps

theorem own_nil_more {w : World} {base n : Nat} {e : TypeId} {v : Value} {xs : List Value} (h : w.ownsRow base e 1 v n xs) (o : Obj) : (w.alloc o).ownsRow base e 1 v n xs := h.alloc o
theorem grow_own {w wr w1 : World} {n : Nat} {e : TypeId} {v : Value} {xs : List Value} (hB : Below w.heap.size w wr) (hO : wr.ownsRow w.heap.size e 1 v n xs) (g : wr.grownBy w1 v.ownBlock) : Below w.heap.size w w1 := hB.grown g hB.size (own_lt hO)
section
variable {B S g mb : Nat} {rs : Option Nat} {n : Nt} {K : Nat}
set_option maxRecDepth 100000 in
theorem field_to (m : Mg) (a : Option Addr) (c : Nat) (w : World) : (Instr.field 32 (.agg #[.int .u8 m.k, .int .i64 m.fr, .int .i64 m.to, .int .i64 m.ht, .int .i64 m.rd, .int .i64 m.vl, .int .i64 m.ep, .int .i64 m.dl, .int .i64 m.id, .string ⟨m.s.toArray⟩, .slice a m.l.length c]) 2).run Try.prog w = .ok (.int .i64 m.to) w := by kernel_rfl
/-- What To comes to. -/
def ToPost (xs : List Int) (w : World) (e : Ending) (w' : World) : Prop := ∃ a c, e = .returned (.slice a xs.length c) ∧ w'.ownsRow w.heap.size 3 1 (.slice a xs.length c) xs.length (xs.map (.int .i64)) ∧ Below w.heap.size w w'
theorem own_form' {w : World} {base n : Nat} {e : TypeId} {v : Value} {xs : List Value} (h : w.ownsRow base e 1 v n xs) : ∃ a c, v = .slice a n c := by
  rcases h.2 with ⟨rfl, h0⟩ | ⟨g', cap, cur, rfl, _⟩
  · exact ⟨none, 0, by rw [h0]⟩
  · exact ⟨_, cap, rfl⟩
set_option maxRecDepth 100000 in
theorem to_nil (node : Int) (w : World) : Calls Try.prog 27 #[.pointer none, .int .i64 node] w fun e w' => e = .returned (.slice none 0 0) ∧ w = w' := by
  go_enter Try.func27, Try.ntmps27
  go_wp2_with fail
  refine (len_nil w).mono ?_
  rintro e w' ⟨rfl, rfl⟩
  go_wp2_with fail
  go_loopw [5, 9] (fun v i wr => v = .slice none 0 0 ∧ i = .int .i64 0 ∧ w = wr) (fun _ i _ => (1 - intOf i).toNat)
  case atStart => exact ⟨rfl, rfl, rfl⟩
  case round =>
    obtain ⟨rfl, rfl, rfl⟩ := hrel
    go_wp2_with fail
    go_ret
    exact ⟨rfl, rfl⟩
set_option maxRecDepth 100000 in
set_option maxHeartbeats 2000000 in
theorem to_any (node : Int) (w : World) (h : NetAt B S g mb rs n w) (ok : n.Ok K) (hK : K ≤ 1000000) :
    Calls Try.prog 27 #[.pointer (some ⟨g, 0, none⟩), .int .i64 node] w (ToPost (n.to node) w) := by
  have HL := Lib.hid (len_any w h ok)
  have hsh : n.l.length ≤ 4096 := by
    have := ok.len
    have := ok.most2
    omega
  have HN := Lib.hid (And.intro h ok)
  have hSw := h.hS
  clear h ok
  obtain ⟨i0, hi, hz0, hz1, hz2⟩ := info_parts infoInt
  go_enter Try.func27, Try.ntmps27
  go_wp2_with fail
  refine (Calls.mono HL.out ?_)
  rintro e w' ⟨rfl, rfl⟩
  clear HL
  go_wp2_with fail
  go_loopw [5, 9] (fun v i wr => ∃ j : Nat, j ≤ n.l.length ∧ i = .int .i64 j ∧ wr.ownsRow w.heap.size 3 1 v (tos (n.l.take j) 0 node).length ((tos (n.l.take j) 0 node).map (.int .i64)) ∧ Below w.heap.size w wr) (fun _ i _ => n.l.length - (intOf i).toNat)
  case atStart => exact ⟨0, Nat.zero_le _, rfl, World.ownsRow_nil _ _ _ _, Below.refl _ _⟩
  case round =>
    obtain ⟨j, hj, rfl, hO, hB⟩ := hrel
    have hTl : (tos (n.l.take j) 0 node).length ≤ 4096 := by
      have := tos_length_le (n.l.take j) 0 node
      rw [List.length_take] at this
      omega
    by_cases hlt : j < n.l.length
    · obtain ⟨m, hm⟩ : ∃ m, n.l[j]? = some m := ⟨_, List.getElem?_eq_getElem hlt⟩
      obtain ⟨q, c', t, a, c, hS, -, hc'⟩ := HN.out.1.look HN.out.2 hK hm
      obtain ⟨x3, x2, xq, xl⟩ := hS wr.drew (below_le hB.drew hSw)
      have HT := Lib.hid (tos_take node hm)
      have hjI : (j : Int) < (n.l.length : Int) := by omega
      have hjc : (n.l.length : Int) ≤ (c' : Int) := by omega
      have hfl := field_to m a c
      have HO := Lib.hid hO
      have HB := Lib.hid (And.intro hB (Nat.le_trans hB.size (Nat.le_refl _)))
      have hBs : w.heap.size ≤ wr.heap.size := hB.size
      clear hm hS hO hB
      by_cases hto : m.to = node
      · have hb : (m.to == node) = true := by simpa using hto
        have HTo := Lib.hid hto
        clear hto
        go_wp2_with fail
        go_region_held3 (fun w' => w'.cell? ⟨g, 3, none⟩ = some (.map (some mb)) ∧ w'.cell? ⟨g, 2, none⟩ = some (.slice (some ⟨q, 0, none⟩) n.l.length c') ∧ w'.cell? ⟨q, j, none⟩ = some (.int .i64 t) ∧
          (Instr.lookup 72 (.map (some mb)) (.int .i64 t) false).run Try.prog w' = .ok (.agg #[.int .u8 m.k, .int .i64 m.fr, .int .i64 m.to, .int .i64 m.ht, .int .i64 m.rd, .int .i64 m.vl, .int .i64 m.ep, .int .i64 m.dl, .int .i64 m.id, .string ⟨m.s.toArray⟩, .slice a m.l.length c]) w') (with_reducible exact ⟨x3, x2, xq, xl⟩) (fail)
        clear x3 x2 xq xl
        go_wp2_with (at_builtin; refine wpList_append_own_at _ rfl _ _ 46 rfl w.heap.size 3 i0 (.int .i64 0) 1 8 Try.underlying46 hi hz0 hz1 hz2 rfl (by decide) _ _ _ rfl ((HO.out.alloc _).drew) ⟨wr.heap.size, 0, none⟩ 1 1 [.int .i64 (j : Int)] rfl rfl (cell_one_new _ _ _) (one_int [(j : Int)]) (by unfold maxLen; omega) (by omega) (by simp; omega) ?_; intro v' w1 hown1 hgrow _ _)
        have G0 : wr.grownBy w1 (Value.ownBlock _) := (World.grownBy_alloc wr (.cells #[.int .i64 (j : Int)] 3) _).trans ⟨hgrow.os, hgrow.tape, hgrow.output, hgrow.size, hgrow.block⟩
        have B1 := grow_own HB.out.1 HO.out G0
        go_wp2_with fail
        go_roundw
        case rel =>
          refine ⟨j + 1, by omega, by go_num, ?_, B1⟩
          rw [HT.out, if_pos HTo.out, List.length_append, List.map_append]
          exact hown1
        case measure => simp [intOf]; omega
      · have hb : (m.to == node) = false := by simpa using hto
        have HTo := Lib.hid hto
        clear hto
        go_wp2_with fail
        go_region_held3 (fun w' => w'.cell? ⟨g, 3, none⟩ = some (.map (some mb)) ∧ w'.cell? ⟨g, 2, none⟩ = some (.slice (some ⟨q, 0, none⟩) n.l.length c') ∧ w'.cell? ⟨q, j, none⟩ = some (.int .i64 t) ∧
          (Instr.lookup 72 (.map (some mb)) (.int .i64 t) false).run Try.prog w' = .ok (.agg #[.int .u8 m.k, .int .i64 m.fr, .int .i64 m.to, .int .i64 m.ht, .int .i64 m.rd, .int .i64 m.vl, .int .i64 m.ep, .int .i64 m.dl, .int .i64 m.id, .string ⟨m.s.toArray⟩, .slice a m.l.length c]) w') (with_reducible exact ⟨x3, x2, xq, xl⟩) (fail)
        clear x3 x2 xq xl
        go_wp2_with fail
        go_roundw
        case rel =>
          refine ⟨j + 1, by omega, by go_num, ?_, HB.out.1.drew⟩
          rw [HT.out, if_neg HTo.out, List.append_nil]
          exact HO.out
        case measure => simp [intOf]; omega
    · have hje : j = n.l.length := by omega
      subst hje
      rw [List.take_length] at hO
      obtain ⟨a, c, rfl⟩ := own_form' hO
      have HO := Lib.hid hO
      clear hO
      go_wp2_with fail
      go_ret
      exact ⟨a, c, rfl, HO.out, hB⟩
end
set_option maxRecDepth 100000 in
set_option maxHeartbeats 400000 in
theorem ints_any (a a' : Option Addr) (c c' : Nat) (xs ys : List Int) (w : World) (ha : Nums .i64 w w.heap.size a xs) (ha' : Nums .i64 w w.heap.size a' ys) (hx : xs.length ≤ 9223372036854775807) (hy : ys.length ≤ 9223372036854775807) :
    Calls Try.prog 29 #[.slice a xs.length c, .slice a' ys.length c'] w (BoolPost (xs == ys) w) := by
  by_cases hl : xs.length = ys.length
  · have hd : ((xs.length : Int) != (ys.length : Int)) = false := by simp; omega
    have HL := Lib.hid hl
    clear hl
    go_enter Try.func29, Try.ntmps29
    go_wp2_with fail
    go_loopw [5] (fun v wr => ∃ j : Nat, j ≤ xs.length ∧ v = .int .i64 j ∧ (xs.take j == ys.take j) = true ∧ Below w.heap.size w wr) (fun v _ => xs.length - (intOf v).toNat)
    case atStart => exact ⟨0, Nat.zero_le _, rfl, by simp, Below.refl _ _⟩
    case round =>
      obtain ⟨j, hj, rfl, he, hB⟩ := hrel
      by_cases hlt : j < xs.length
      · have hlt2 : j < ys.length := by rw [← HL.out]; exact hlt
        obtain ⟨p, hp⟩ : ∃ p, xs[j]? = some p := ⟨_, List.getElem?_eq_getElem hlt⟩
        obtain ⟨q, hq⟩ : ∃ q, ys[j]? = some q := ⟨_, List.getElem?_eq_getElem hlt2⟩
        have hnext := take_beq' hp hq
        rw [he] at hnext
        rcases ha.kept hB (Nat.le_refl _) with h0 | ⟨b1, o1, rfl, hb1, hc1⟩
        · rw [h0] at hlt; simp at hlt
        rcases ha'.kept hB (Nat.le_refl _) with h0 | ⟨b2, o2, rfl, hb2, hc2⟩
        · rw [h0] at hlt2; simp at hlt2
        have e1 := hc1 j p hp
        have e2 := hc2 j q hq
        have h2I : (j : Int) < (ys.length : Int) := by omega
        have h1I : (j : Int) < (xs.length : Int) := by omega
        have HN := Lib.hid hnext
        have HP := Lib.hid hp
        have HQ := Lib.hid hq
        clear hnext hp hq hc1 hc2 he
        by_cases hpq : p = q
        · subst hpq
          go_wp2_with fail
          go_quiet (fail)
          go_wp2_with fail
          go_roundw
          case rel => exact ⟨j + 1, by omega, by go_num, by rw [HN.out]; simp, below_drewN hB _⟩
          case measure => simp [intOf]; omega
        · have hd2 : (p != q) = true := by simpa using hpq
          go_wp2_with fail
          go_quiet (fail)
          go_wp2_with fail
          go_ret
          refine ⟨ret_bool ?_, below_drewN hB _⟩
          symm
          rw [beq_eq_false_iff_ne]
          rintro rfl
          have := HP.out.symm.trans HQ.out
          injection this with this
          exact hpq this
      · have hje : j = xs.length := by omega
        subst hje
        have e3 : (xs == ys) = true := by rw [List.take_length, List.take_of_length_le (by rw [HL.out]; exact Nat.le_refl _)] at he; exact he
        have H3 := Lib.hid e3
        clear e3 he
        go_wp2_with fail
        go_ret
        exact ⟨ret_bool H3.out.symm, hB⟩
  · have hd : ((xs.length : Int) != (ys.length : Int)) = true := by simp; omega
    have hne : (xs == ys) = false := by
      rw [beq_eq_false_iff_ne]
      rintro rfl
      exact hl rfl
    rw [hne]
    clear hne
    go_enter Try.func29, Try.ntmps29
    go_wp2_with fail
    go_ret
    exact ⟨rfl, Below.refl _ _⟩
end Go.Proofs.Ytbibbndjnlnbiaa
