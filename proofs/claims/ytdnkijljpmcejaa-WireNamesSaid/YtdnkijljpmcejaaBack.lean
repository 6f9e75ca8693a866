/-
  consistorylaw09.WireBack: the walk.
-/
import Derived.Test.YtdnkijljpmcejaaThings
import Derived.Test.YtdnkijljpmcejaaGotLaw
namespace Go.Proofs.Ytdnkijljpmcejaa
open Go.RowKit

/-- The answer true, and all that was there stands. -/
def TruePost (w : World) (e : Ending) (w' : World) : Prop := e = .returned (.bool true) ∧ Below w.heap.size w w'

theorem like_true {t x : Th} (h1 : x.k = t.k) (h2 : x.bytes = t.bytes) : (x.k == t.k && x.bytes == t.bytes) = true := by simp [h1, h2]
theorem bytesOf_le : ∀ ts : List Th, (bytesOf ts).length ≤ 2 * tot ts
  | [] => by simp [bytesOf]
  | t :: ts => by
    have := bytesOf_le ts
    have := bytes_le2 t
    simp only [bytesOf, tot, List.length_append]
    omega
theorem tot_take (ts : List Th) (j : Nat) : tot (ts.take j) ≤ tot ts := by
  conv => rhs; rw [← List.take_append_drop j ts, tot_append]
  omega

theorem text_short (st : RS) : st.text.1.length ≤ 2048 := by
  unfold RS.text
  split
  · simp
  split
  · simp
  split
  · simp
  split
  · simp
  · simp; omega
theorem list_short (st : RS) : st.list.1.length ≤ 1024 := by
  unfold RS.list
  split
  · simp
  split
  · simp
  split
  · simp
  split
  · simp
  · rw [nums_length]; omega
theorem got_short (t : Th) (st : RS) : (t.got st).1.s.length ≤ 2048 ∧ (t.got st).1.l.length ≤ 1024 := by
  have h1 := text_short st
  have h2 := list_short st
  unfold Th.got
  split
  · simp
  split
  · simp
  split
  · exact ⟨h1, by simp⟩
  split
  · exact ⟨by simp, h2⟩
  · simp
/-- like, the things written out, in a world that drew. -/
theorem like_agg (t o : Th) (a a' : Option Addr) (c c' : Nat) (w : World) (m : Bool) (ht : t.Ok) (ho : o.Ok) (ha : Nums .u64 w w.heap.size a t.l) (ha' : Nums .u64 w w.heap.size a' o.l) (hs : t.s.length ≤ 2048 ∧ t.l.length ≤ 1024) (ho2 : o.s.length ≤ 140737488351232) (hol : o.l.length ≤ 17592186043904) (hm : (t.k == o.k && t.bytes == o.bytes) = m) :
    Calls Try.prog 31 #[.agg #[.int .u8 t.k, .int .u64 t.n, .string ⟨t.s.toArray⟩, .slice a t.l.length c, .int .i64 t.most], .agg #[.int .u8 o.k, .int .u64 o.n, .string ⟨o.s.toArray⟩, .slice a' o.l.length c', .int .i64 o.most]] w.drew (fun e w' => e = .returned (.bool m) ∧ Below w.drew.heap.size w.drew w') := by
  subst hm
  exact like_any t o a a' c c' w.drew ht ho ha ha' (by omega) (by omega) (by omega) (by omega)

theorem cell_keepd {w1 w2 : World} {p : Addr} {v : Value} (h : w1.cell? p = some v) (b : Below w1.drew.heap.size w1.drew w2) : w2.cell? p = some v := cell_keep (w1 := w1.drew) h b
theorem five_kept {w w' : World} {C b o : Nat} {v0 v1 v2 v3 v4 : Value} (k : Below C w w') (hb : b < C) (c0 : w.cell? ⟨b, o, none⟩ = some v0) (c1 : w.cell? ⟨b, o + 1, none⟩ = some v1) (c2 : w.cell? ⟨b, o + 2, none⟩ = some v2) (c3 : w.cell? ⟨b, o + 3, none⟩ = some v3) (c4 : w.cell? ⟨b, o + 4, none⟩ = some v4) :
    w'.cell? ⟨b, o, none⟩ = some v0 ∧ w'.cell? ⟨b, o + 1, none⟩ = some v1 ∧ w'.cell? ⟨b, o + 2, none⟩ = some v2 ∧ w'.cell? ⟨b, o + 3, none⟩ = some v3 ∧ w'.cell? ⟨b, o + 4, none⟩ = some v4 := by
  have e : ∀ i, w'.cell? ⟨b, i, none⟩ = w.cell? ⟨b, i, none⟩ := fun i => k.cell (p := ⟨b, i, none⟩) hb
  exact ⟨by rw [e]; exact c0, by rw [e]; exact c1, by rw [e]; exact c2, by rw [e]; exact c3, by rw [e]; exact c4⟩
theorem five_new (w : World) (v0 v1 v2 v3 v4 : Value) : let W := w.alloc (.cells #[v0, v1, v2, v3, v4] 34)
    W.cell? ⟨w.heap.size, 0, none⟩ = some v0 ∧ W.cell? ⟨w.heap.size, 1, none⟩ = some v1 ∧ W.cell? ⟨w.heap.size, 2, none⟩ = some v2 ∧ W.cell? ⟨w.heap.size, 3, none⟩ = some v3 ∧ W.cell? ⟨w.heap.size, 4, none⟩ = some v4 := by
  intro W
  have B := Blk.new w 34 #[v0, v1, v2, v3, v4]
  exact ⟨B.cell 0, B.cell 1, B.cell 2, B.cell 3, B.cell 4⟩

set_option maxRecDepth 100000 in
set_option maxHeartbeats 400000 in
theorem back_any (a : Option Addr) (c : Nat) (ts : List Th) (w : World) (h : Things w w.heap.size a ts) (hf : ∀ t ∈ ts, Fit t) (hl : ts.length ≤ 9223372036854775807) :
    Calls Try.prog 9 #[.slice a ts.length c] w (TruePost w) := by
  go_enter Try.func9, Try.ntmps9
  go_wp2_with fail
  refine (long_any a c ts w h hf hl).mono ?_
  rintro e w1 ⟨x, rfl, hx, b1⟩
  cases x with
  | true =>
    go_wp2_with fail
    refine (awake_any w1).mono ?_
    rintro e w2 ⟨rfl, b2⟩
    go_wp2_with fail
    go_ret
    exact ⟨rfl, step_below b1 b2⟩
  | false =>
    have ht := Lib.hid (hx rfl)
    clear hx
    go_wp2_with fail
    refine (awake_any w1).mono ?_
    rintro e w2 ⟨rfl, b2⟩
    have B2 := step_below b1 b2
    go_wp2_with fail
    go_loopw [3, 4] (fun u v wr => ∃ j : Nat, j ≤ ts.length ∧ v = .int .i64 j ∧ u = .string ⟨(bytesOf (ts.take j)).toArray⟩ ∧ (∀ t ∈ ts.take j, t.may = true) ∧ Below w.heap.size w wr) (fun _ v _ => ts.length - (intOf v).toNat)
    case atStart =>
      exact ⟨0, Nat.zero_le _, rfl, by simp [bytesOf], by simp, B2⟩
    case round =>
      obtain ⟨j, hj, rfl, rfl, hm, hB⟩ := hrel
      have hs := bytesOf_le (ts.take j)
      have hs2 := tot_take ts j
      have hs3 := ht.out
      have hs4 : (bytesOf (ts.take j)).length + 20000 ≤ 140737488355328 := by omega
      clear hs hs2 hs3
      have HM := Lib.hid hm
      clear hm
      by_cases hlt : j < ts.length
      · obtain ⟨t, htj⟩ : ∃ t, ts[j]? = some t := ⟨_, List.getElem?_eq_getElem hlt⟩
        obtain ⟨tok, hts, htl⟩ := hf t (List.mem_of_getElem? htj)
        rcases h.kept hB (Nat.le_refl _) with h0 | ⟨b, o, rfl, hbl, hc⟩
        · rw [h0] at hlt; simp at hlt
        obtain ⟨la, lc, hnums, c0, c1, c2, c3, c4⟩ := hc j t htj
        have HX := Lib.hid htj
        clear htj hc
        go_wp2_with fail
        refine (may_any t la lc _ (by omega) (by omega)).mono ?_
        rintro e w3 ⟨rfl, b3⟩
        cases hmay : t.may with
        | false =>
          go_wp2_with fail
          go_ret
          exact ⟨rfl, step_below hB b3⟩
        | true =>
          have HY := Lib.hid hmay
          clear hmay
          have B3 := step_below hB b3
          have d0 := cell_keep c0 b3
          have d1 := cell_keep c1 b3
          have d2 := cell_keep c2 b3
          have d3 := cell_keep c3 b3
          have d4 := cell_keep c4 b3
          clear c0 c1 c2 c3 c4
          have hn3 := (hnums.kept b3 hB.size).more B3.size
          go_wp2_with fail
          refine (put_thing t la lc _ _ tok hn3 (by omega) (by omega) hs4).mono ?_
          rintro e w4 ⟨rfl, b4⟩
          go_wp2_with fail
          go_roundw
          case rel =>
            refine ⟨j + 1, by omega, by go_num, ?_, ?_, step_below B3 b4⟩
            · rw [List.take_add_one, HX.out, bytesOf_append]; simp [bytesOf]
            · intro t' ht'
              rw [List.take_add_one, HX.out, List.mem_append] at ht'
              rcases ht' with h1 | h1
              · exact HM.out t' h1
              · simp at h1; subst h1; exact HY.out
          case measure => simp [intOf]; omega
      · have hje : j = ts.length := by omega
        subst hje
        go_wp2_with fail
        refine (open_any _ _).mono ?_
        rintro e w3 ⟨rfl, r3, b3⟩
        have B3 := step_below hB b3
        have hg : w.heap.size ≤ wr.heap.size := hB.size
        generalize wr.heap.size = g at r3 hg
        clear b3 hs4
        rw [List.take_length] at HM
        go_wp2_with fail
        go_loopw [6] (fun v wr => ∃ j : Nat, j ≤ ts.length ∧ v = .int .i64 j ∧ RdAt g ⟨bytesOf (ts.drop j), 0⟩ wr ∧ Below w.heap.size w wr) (fun v _ => ts.length - (intOf v).toNat)
        case atStart =>
          exact ⟨0, Nat.zero_le _, rfl, by simpa using r3, B3⟩
        case round =>
          clear B3 r3 hB
          obtain ⟨j, hj, rfl, hr, hB⟩ := hrel
          by_cases hlt : j < ts.length
          · obtain ⟨t, htj⟩ : ∃ t, ts[j]? = some t := ⟨_, List.getElem?_eq_getElem hlt⟩
            have hmem := List.mem_of_getElem? htj
            obtain ⟨tok, hts, htl⟩ := hf t hmem
            have hdrop : ts.drop j = t :: ts.drop (j + 1) := by
              rw [List.drop_eq_getElem_cons hlt]
              rw [List.getElem?_eq_getElem hlt] at htj
              injection htj with htj
              rw [htj]
            obtain ⟨x, hx, hxk, hxb⟩ := got_back t tok (HM.out t hmem) (bytesOf (ts.drop (j + 1)))
            have hxok := got_only' t (t.bytes ++ bytesOf (ts.drop (j + 1))) tok.k
            rw [hx] at hxok
            rcases h.kept hB (Nat.le_refl _) with h0 | ⟨b, o, rfl, hbl, hc⟩
            · rw [h0] at hlt; simp at hlt
            obtain ⟨la, lc, hnums, c0, c1, c2, c3, c4⟩ := hc j t htj
            rw [hdrop, bytesOf] at hr
            clear htj hc hdrop
            go_wp2_with fail
            refine (got_any t la lc g _ _ tok.k.1 hr).mono ?_
            rintro e w4 ⟨xa, xc, rfl, hxn, hr4, o4⟩
            have hxs := got_short t ⟨t.bytes ++ bytesOf (ts.drop (j + 1)), 0⟩
            rw [hx] at hr4 hxn hxs ⊢
            dsimp only at hr4 hxn hxok hxs
            have hxk' : x.Ok := by
              rcases hxok with ⟨_, h, _⟩ | ⟨h, _⟩
              · exact h
              · exact absurd rfl h
            have B4 := step_only hB o4 hg
            have BO : Below w.heap.size wr w4 := below_only (Below.refl _ wr) o4 hg hB.size
            have BW : Below w4.heap.size w4 (w4.alloc (.cells #[.int .u8 x.k, .int .u64 x.n, .string ⟨x.s.toArray⟩, .slice xa x.l.length xc, .int .i64 x.most] 34)) := (Below.refl _ _).alloc (Nat.le_refl _) _
            have BV : Below w.heap.size wr (w4.alloc (.cells #[.int .u8 x.k, .int .u64 x.n, .string ⟨x.s.toArray⟩, .slice xa x.l.length xc, .int .i64 x.most] 34)) := BO.trans (BW.mono B4.size)
            have HT := Lib.hid (And.intro (And.intro hxk' tok) (And.intro ((hxn.kept BW (Nat.le_refl _)).more BW.size) ((hnums.kept BV (Nat.le_refl _)).more (B4.trans (BW.mono B4.size)).size)))
            obtain ⟨q0, q1, q2, q3, q4⟩ := five_kept BV hbl c0 c1 c2 c3 c4
            obtain ⟨p0, p1, p2, p3, p4⟩ := five_new w4 (.int .u8 x.k) (.int .u64 x.n) (.string ⟨x.s.toArray⟩) (.slice xa x.l.length xc) (.int .i64 x.most)
            have HB := Lib.hid (And.intro B4 BW)
            have HK := Lib.hid (like_true hxk hxb)
            unfold Th.val
            dsimp only
            clear hx hxok hxk hxb hxn hnums tok hxk' BW BO BV B4 c0 c1 c2 c3 c4
            go_wp2_with fail
            go_region_held3 (fun w' => w'.cell? ⟨w4.heap.size, 0, none⟩ = some (.int .u8 x.k) ∧ w'.cell? ⟨w4.heap.size, 1, none⟩ = some (.int .u64 x.n) ∧ w'.cell? ⟨w4.heap.size, 2, none⟩ = some (.string ⟨x.s.toArray⟩) ∧ w'.cell? ⟨w4.heap.size, 3, none⟩ = some (.slice xa x.l.length xc) ∧ w'.cell? ⟨w4.heap.size, 4, none⟩ = some (.int .i64 x.most) ∧
                w'.cell? ⟨b, o + j * 5, none⟩ = some (.int .u8 t.k) ∧ w'.cell? ⟨b, o + j * 5 + 1, none⟩ = some (.int .u64 t.n) ∧ w'.cell? ⟨b, o + j * 5 + 2, none⟩ = some (.string ⟨t.s.toArray⟩) ∧ w'.cell? ⟨b, o + j * 5 + 3, none⟩ = some (.slice la t.l.length lc) ∧ w'.cell? ⟨b, o + j * 5 + 4, none⟩ = some (.int .i64 t.most))
              (first | exact ⟨p0, p1, p2, p3, p4, q0, q1, q2, q3, q4⟩ | exact ⟨cell_keepd p0 b5, cell_keepd p1 b5, cell_keepd p2 b5, cell_keepd p3 b5, cell_keepd p4 b5, cell_keepd q0 b5, cell_keepd q1 b5, cell_keepd q2 b5, cell_keepd q3 b5, cell_keepd q4 b5⟩ | go_keep)
              (first | (go_at_call 31; (with_reducible refine (like_agg x t xa la xc lc _ true HT.out.1.1 HT.out.1.2 HT.out.2.1 HT.out.2.2 hxs hts htl HK.out).mono ?_); rintro e w5 ⟨rfl, b5⟩))
            go_wp2_with fail
            go_roundw
            case rel =>
              exact ⟨j + 1, by omega, by go_num, Blk.kept (Blk.drew (Blk.alloc hr4 _)) b5, step_below ((HB.out.1.trans (HB.out.2.mono HB.out.1.size)).drew) b5⟩
            case measure => simp [intOf]; omega
          · have hje : j = ts.length := by omega
            subst hje
            rw [List.drop_length] at hr
            go_wp2_with fail
            refine (left_any g ⟨[], 0⟩ _ hr).mono ?_
            rintro e w4 ⟨rfl, rfl⟩
            go_wp2_with fail
            refine (end_any g ⟨[], 0⟩ _ hr).mono ?_
            rintro e w5 ⟨rfl, hr5, o5⟩
            have ef : RS.fin ⟨[], 0⟩ = ⟨[], 0⟩ := rfl
            rw [ef] at hr5 ⊢
            clear ef
            go_wp2_with fail
            refine (wrong_any g ⟨[], 0⟩ _ hr5).mono ?_
            rintro e w6 ⟨rfl, rfl⟩
            go_wp2_with fail
            go_ret
            exact ⟨rfl, step_only hB o5 hg⟩
end Go.Proofs.Ytdnkijljpmcejaa
