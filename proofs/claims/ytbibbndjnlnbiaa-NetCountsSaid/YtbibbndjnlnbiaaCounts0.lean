/-
  consistorylaw28.count.
-/
import Derived.Test.YtbibbndjnlnbiaaMRow
import Derived.Test.YtbibbndjnlnbiaaAlone
namespace Go.Proofs.Ytbibbndjnlnbiaa
open Go.RowKit Go.Maps

theorem at_below {w w' : World} {p : Addr} {x : Value} (h : w.cell? p = some x) (b : Below w.drew.heap.size w.drew w') : w'.cell? p = some x := cell_keepd h b
set_option maxRecDepth 100000 in
set_option maxHeartbeats 2000000 in
theorem count_any {B : Nat} (l : List Mg) (m : Mg) (a a' : Option Addr) (c c' : Nat) (w : World) (h : MRow B w (.slice a l.length c) l) (hB : B ≤ w.heap.size) (hm : Nums .u64 w w.heap.size a' m.l) (hl : l.length ≤ 1000000) (hx : ∀ x ∈ l, x.l.length ≤ 1000000) :
    Calls Try.prog 25 #[.slice a l.length c, .agg #[.int .u8 m.k, .int .i64 m.fr, .int .i64 m.to, .int .i64 m.ht, .int .i64 m.rd, .int .i64 m.vl, .int .i64 m.ep, .int .i64 m.dl, .int .i64 m.id, .string ⟨m.s.toArray⟩, .slice a' m.l.length c']] w fun e w' => e = .returned (.int .i64 (cnt l m)) ∧ Below w.heap.size w w' := by
  have HH := Lib.hid (And.intro h (And.intro hB (And.intro hx hm)))
  clear h hB hx hm
  go_enter Try.func25, Try.ntmps25
  go_wp2_with fail
  go_loopw [5, 6] (fun u v wr => ∃ j : Nat, j ≤ l.length ∧ v = .int .i64 j ∧ u = .int .i64 (cnt (l.take j) m) ∧ Below w.heap.size w wr ∧ Blk wr w.heap.size 32 (m.cells a' c')) (fun _ v _ => l.length - (intOf v).toNat)
  case atStart => exact ⟨0, Nat.zero_le _, rfl, rfl, boxed_below (Below.refl w.heap.size w) (Nat.le_refl _) m a' c', boxed_blk w m a' c'⟩
  case round =>
    obtain ⟨j, hj, rfl, rfl, hBw, hG⟩ := hrel
    obtain ⟨hr, hB, hx, hm⟩ := HH.out
    have hr := hr.kept hB hBw
    have hcl : cnt (l.take j) m ≤ 1000000 := by
      have := cnt_le (l.take j) m
      rw [List.length_take] at this
      omega
    have c0 : (0 : Int) ≤ (cnt (l.take j) m : Int) := by omega
    have c1 : (cnt (l.take j) m : Int) ≤ 1000000 := by omega
    by_cases hlt : j < l.length
    · obtain ⟨x, hxj⟩ : ∃ x, l[j]? = some x := ⟨_, List.getElem?_eq_getElem hlt⟩
      have hBr0 : B ≤ wr.heap.size := Nat.le_trans hB hBw.size
      obtain ⟨q, cap, xa, xc, hv, hcap, hs, u0, u1, u2, u3, u4, u5, u6, u7, u8, u9, u10⟩ := (hr.kept hBr0 ((Below.refl _ wr).drew)).at hxj
      injection hv with e1 _ e2
      subst e1 e2
      obtain ⟨f0, f1, f2, f3, f4, f5, f6, f7, f8, f9, f10⟩ := (Blk.drew hG).msg
      have hjI : (j : Int) < (l.length : Int) := by omega
      have hxl := hx x (List.mem_of_getElem? hxj)
      have HC := Lib.hid (cnt_take m hxj)
      have hN1 := hs.nums hBr0
      have hN2 : Nums .u64 wr wr.heap.size a' m.l := (hm.kept hBw (Nat.le_refl _)).more hBw.size
      have HP := Lib.hid (And.intro (show Nums .u64 wr.drew wr.drew.heap.size xa x.l from hN1) (And.intro (show Nums .u64 wr.drew wr.drew.heap.size a' m.l from hN2) (And.intro hBw hG)))
      have hxl9 : x.l.length ≤ 9223372036854775807 := by omega
      clear hr hx hm hs hxj hN1 hN2 hBw hG
      generalize hsb : x.same m = sb at *
      have HS := Lib.hid hsb
      clear hsb
      go_wp2_with fail
      go_region_held3 (fun w' => w'.cell? ⟨q, j * 11, none⟩ = some (.int .u8 x.k) ∧ w'.cell? ⟨q, j * 11 + 1, none⟩ = some (.int .i64 x.fr) ∧ w'.cell? ⟨q, j * 11 + 2, none⟩ = some (.int .i64 x.to) ∧ w'.cell? ⟨q, j * 11 + 3, none⟩ = some (.int .i64 x.ht) ∧ w'.cell? ⟨q, j * 11 + 4, none⟩ = some (.int .i64 x.rd) ∧ w'.cell? ⟨q, j * 11 + 5, none⟩ = some (.int .i64 x.vl) ∧ w'.cell? ⟨q, j * 11 + 6, none⟩ = some (.int .i64 x.ep) ∧ w'.cell? ⟨q, j * 11 + 7, none⟩ = some (.int .i64 x.dl) ∧ w'.cell? ⟨q, j * 11 + 8, none⟩ = some (.int .i64 x.id) ∧ w'.cell? ⟨q, j * 11 + 9, none⟩ = some (.string ⟨x.s.toArray⟩) ∧ w'.cell? ⟨q, j * 11 + 10, none⟩ = some (.slice xa x.l.length xc) ∧ w'.cell? ⟨w.heap.size, 0, none⟩ = some (.int .u8 m.k) ∧ w'.cell? ⟨w.heap.size, 1, none⟩ = some (.int .i64 m.fr) ∧ w'.cell? ⟨w.heap.size, 2, none⟩ = some (.int .i64 m.to) ∧ w'.cell? ⟨w.heap.size, 3, none⟩ = some (.int .i64 m.ht) ∧ w'.cell? ⟨w.heap.size, 4, none⟩ = some (.int .i64 m.rd) ∧ w'.cell? ⟨w.heap.size, 5, none⟩ = some (.int .i64 m.vl) ∧ w'.cell? ⟨w.heap.size, 6, none⟩ = some (.int .i64 m.ep) ∧ w'.cell? ⟨w.heap.size, 7, none⟩ = some (.int .i64 m.dl) ∧ w'.cell? ⟨w.heap.size, 8, none⟩ = some (.int .i64 m.id) ∧ w'.cell? ⟨w.heap.size, 9, none⟩ = some (.string ⟨m.s.toArray⟩) ∧ w'.cell? ⟨w.heap.size, 10, none⟩ = some (.slice a' m.l.length c')) (first | (with_reducible exact ⟨u0, u1, u2, u3, u4, u5, u6, u7, u8, u9, u10, f0, f1, f2, f3, f4, f5, f6, f7, f8, f9, f10⟩) | (with_reducible exact ⟨v0, v1, v2, v3, v4, v5, v6, v7, v8, v9, v10, g0, g1, g2, g3, g4, g5, g6, g7, g8, g9, g10⟩))
        ((go_at_call 21; (with_reducible refine (rsame_agg x m xa a' xc c' _ HP.out.1 HP.out.2.1 hxl9 sb HS.out).mono ?_); rintro e7 w7 ⟨rfl, b7⟩; have v0 := cell_keep u0 b7; have g0 := cell_keep f0 b7; have v1 := cell_keep u1 b7; have g1 := cell_keep f1 b7; have v2 := cell_keep u2 b7; have g2 := cell_keep f2 b7; have v3 := cell_keep u3 b7; have g3 := cell_keep f3 b7; have v4 := cell_keep u4 b7; have g4 := cell_keep f4 b7; have v5 := cell_keep u5 b7; have g5 := cell_keep f5 b7; have v6 := cell_keep u6 b7; have g6 := cell_keep f6 b7; have v7 := cell_keep u7 b7; have g7 := cell_keep f7 b7; have v8 := cell_keep u8 b7; have g8 := cell_keep f8 b7; have v9 := cell_keep u9 b7; have g9 := cell_keep f9 b7; have v10 := cell_keep u10 b7; have g10 := cell_keep f10 b7))
      cases sb with
      | true =>
        go_wp2_with fail
        go_roundw
        case rel => exact ⟨j + 1, by omega, by go_num, by rw [HC.out]; go_num, step_below HP.out.2.2.1.drew b7, (Blk.drew HP.out.2.2.2).kept b7⟩
        case measure => simp [intOf]; omega
      | false =>
        go_wp2_with fail
        go_roundw
        case rel => exact ⟨j + 1, by omega, by go_num, by rw [HC.out]; rfl, step_below HP.out.2.2.1.drew b7, (Blk.drew HP.out.2.2.2).kept b7⟩
        case measure => simp [intOf]; omega
    · have hje : j = l.length := by omega
      subst hje
      rw [List.take_length] at c0 c1 ⊢
      go_wp2_with fail
      go_ret
      exact ⟨rfl, hBw⟩
end Go.Proofs.Ytbibbndjnlnbiaa
