/-
  consistorylaw09.WireCuts: the walk.
-/
import Derived.Test.YtdnkijljpmcejaaBack
namespace Go.Proofs.Ytdnkijljpmcejaa
open Go.RowKit

/-- Where each thing's bytes end. -/
def endsOf (ts : List Th) : List Int := (List.range ts.length).map fun i => ((bytesOf (ts.take (i + 1))).length : Int)
theorem endsOf_snoc (ts : List Th) (j : Nat) (hj : j < ts.length) : endsOf (ts.take (j + 1)) = endsOf (ts.take j) ++ [((bytesOf (ts.take (j + 1))).length : Int)] := by
  unfold endsOf
  rw [List.length_take_of_le (by omega), List.length_take_of_le (by omega), List.range_succ, List.map_append]
  congr 1
  · apply List.map_congr_left
    intro i hi
    have hi := List.mem_range.1 hi
    rw [List.take_take, List.take_take, Nat.min_eq_left (by omega), Nat.min_eq_left (by omega)]
  · simp only [List.map_cons, List.map_nil, List.take_take, Nat.min_self]
theorem endsOf_get {ts : List Th} {j : Nat} (hj : j < ts.length) : (endsOf ts)[j]? = some ((bytesOf (ts.take (j + 1))).length : Int) := by
  unfold endsOf
  simp [hj]
theorem bytesOf_take_succ {ts : List Th} {j : Nat} {t : Th} (h : ts[j]? = some t) : bytesOf (ts.take (j + 1)) = bytesOf (ts.take j) ++ t.bytes := by
  rw [List.take_add_one, h, bytesOf_append]
  simp [bytesOf]
theorem bytesOf_split {ts : List Th} {j : Nat} {t : Th} (h : ts[j]? = some t) : bytesOf ts = bytesOf (ts.take j) ++ (t.bytes ++ bytesOf (ts.drop (j + 1))) := by
  rw [← List.append_assoc, ← bytesOf_take_succ h, ← bytesOf_append, List.take_append_drop]

theorem tot_len : ∀ ts : List Th, 20 * ts.length ≤ tot ts
  | [] => by simp
  | t :: ts => by
    have := tot_len ts
    simp only [tot, List.length_cons]
    omega
theorem infoInt : (Try.prog.info? 3).map (fun i => (i.zero, i.size, i.bytes)) = some (some (.int .i64 0), 1, 8) := by kernel_rfl
theorem cut_at (cut : Int) (n : Nat) (hn : n ≤ 140737488355328) : ∃ k : Nat, wrap64 ((IntKind.u64.wrap cut).tmod ((n : Int) + 1)) = (k : Int) ∧ k ≤ n := by
  have h0 : 0 ≤ IntKind.u64.wrap cut := by rw [wrapU]; exact (toU_u64 cut).1
  generalize IntKind.u64.wrap cut = u at h0
  have h1 : 0 ≤ u.tmod ((n : Int) + 1) := Int.tmod_nonneg _ h0
  have h2 : u.tmod ((n : Int) + 1) < (n : Int) + 1 := Int.tmod_lt_of_pos _ (by omega)
  refine ⟨(u.tmod ((n : Int) + 1)).toNat, ?_, by omega⟩
  rw [IntWalk.wrap64_in _ (by omega)]
  omega
/-- What is left of bytes that were cut. -/
theorem cut_short {sl A B R : List UInt8} {k : Nat} (h : sl = A ++ (B ++ R)) (hA : A.length ≤ k) (hk : k < A.length + B.length) : (sl.take k).drop A.length = B.take (k - A.length) := by
  subst h
  rw [List.drop_take, List.drop_left' rfl, List.take_append_of_le_length (by omega)]
theorem cut_long {sl A B R : List UInt8} {k : Nat} (h : sl = A ++ (B ++ R)) (hk : A.length + B.length ≤ k) : (sl.take k).drop A.length = B ++ (sl.take k).drop (A.length + B.length) := by
  subst h
  rw [List.drop_take, List.drop_left' rfl, List.drop_take, ← List.append_assoc A B R, List.drop_left' (by simp), List.take_append, List.take_of_length_le (by omega)]
  congr 2
  omega
theorem rd_kept {g : Nat} {st : RS} {w w' : World} (h : RdAt g st w) (b : Below w.heap.size w w') : RdAt g st w' := Blk.kept h b
theorem own_form {w : World} {base : Nat} {e : TypeId} {size n : Nat} {v : Value} {xs : List Value} (h : w.ownsRow base e size v n xs) (hn : 0 < n) : ∃ g c, v = .slice (some ⟨g, 0, none⟩) n c := by
  rcases h.2 with ⟨rfl, h0⟩ | ⟨g, c, _, rfl, _⟩
  · omega
  · exact ⟨g, c, rfl⟩
theorem own_cell {w : World} {base : Nat} {e : TypeId} {n q c j : Nat} {xs : List Int} {x : Int} (h : w.ownsRow base e 1 (.slice (some ⟨q, 0, none⟩) n c) n (xs.map (.int .i64))) (hx : xs[j]? = some x) : w.cell? ⟨q, j, none⟩ = some (.int .i64 x) := by
  have := h.cells (g := q) rfl j (.int .i64 x) (by simp [hx])
  rwa [Addr.add_lit, Nat.zero_add] at this
theorem own_below {w w' : World} {base : Nat} {e : TypeId} {size n : Nat} {v : Value} {xs : List Value} (h : w.ownsRow base e size v n xs) (b : Below w.heap.size w w') : w'.ownsRow base e size v n xs :=
  h.kept (below_grown b none) (by cases v.ownBlock <;> simp)

set_option maxRecDepth 100000 in
set_option maxHeartbeats 400000 in
theorem cuts_any (a : Option Addr) (c : Nat) (ts : List Th) (cut : Int) (w : World) (h : Things w w.heap.size a ts) (hf : ∀ t ∈ ts, Fit t) (hl : ts.length ≤ 9223372036854775807) :
    Calls Try.prog 5 #[.slice a ts.length c, .int .i64 cut] w (TruePost w) := by
  go_enter Try.func5, Try.ntmps5
  go_wp2_with fail
  refine (long_any a c ts w h hf hl).mono ?_
  rintro e w1 ⟨x, rfl, hx, b1⟩
  cases x with
  | true =>
    go_wp2_with fail
    refine (awake_any w1).mono ?_
    rintro e w2 ⟨rfl, b2⟩
    go_wp2_with fail
    go_ret
    exact ⟨rfl, step_below b1 b2⟩
  | false =>
    have ht := Lib.hid (hx rfl)
    clear hx
    go_wp2_with fail
    refine (awake_any w1).mono ?_
    rintro e w2 ⟨rfl, b2⟩
    have B2 := step_below b1 b2
    go_wp2_with fail
    go_loopw [5, 6, 7] (fun u x v wr => ∃ j : Nat, j ≤ ts.length ∧ v = .int .i64 j ∧ u = .string ⟨(bytesOf (ts.take j)).toArray⟩ ∧ (∀ t ∈ ts.take j, t.may = true) ∧ wr.ownsRow w.heap.size 3 1 x j ((endsOf (ts.take j)).map (.int .i64)) ∧ Below w.heap.size w wr) (fun _ _ v _ => ts.length - (intOf v).toNat)
    case atStart =>
      exact ⟨0, Nat.zero_le _, rfl, by simp [bytesOf], by simp, by simp only [List.take_zero]; exact World.ownsRow_nil _ _ _ _, B2⟩
    case round =>
      obtain ⟨j, hj, rfl, rfl, hm, hown, hB⟩ := hrel
      have hs := bytesOf_le (ts.take j)
      have hs2 := tot_take ts j
      have hs3 := ht.out
      have hs4 : (bytesOf (ts.take j)).length + 20000 ≤ 140737488355328 := by omega
      clear hs hs2 hs3
      have HM := Lib.hid hm
      clear hm
      by_cases hlt : j < ts.length
      · obtain ⟨t, htj⟩ : ∃ t, ts[j]? = some t := ⟨_, List.getElem?_eq_getElem hlt⟩
        obtain ⟨tok, hts, htl⟩ := hf t (List.mem_of_getElem? htj)
        rcases h.kept hB (Nat.le_refl _) with h0 | ⟨b, o, rfl, hbl, hc⟩
        · rw [h0] at hlt; simp at hlt
        obtain ⟨la, lc, hnums, c0, c1, c2, c3, c4⟩ := hc j t htj
        have HX := Lib.hid htj
        clear htj hc
        go_wp2_with fail
        refine (may_any t la lc _ (by omega) (by omega)).mono ?_
        rintro e w3 ⟨rfl, b3⟩
        cases hmay : t.may with
        | false =>
          go_wp2_with fail
          go_ret
          exact ⟨rfl, step_below hB b3⟩
        | true =>
          have HY := Lib.hid hmay
          clear hmay
          have B3 := step_below hB b3
          have d0 := cell_keep c0 b3
          have d1 := cell_keep c1 b3
          have d2 := cell_keep c2 b3
          have d3 := cell_keep c3 b3
          have d4 := cell_keep c4 b3
          clear c0 c1 c2 c3 c4
          have hn3 := (hnums.kept b3 hB.size).more B3.size
          go_wp2_with fail
          refine (put_thing t la lc _ _ tok hn3 (by omega) (by omega) hs4).mono ?_
          rintro e w4 ⟨rfl, b4⟩
          have hown4 := own_below (own_below hown b3) b4
          have B4 := step_below B3 b4
          obtain ⟨ea, ec, rfl⟩ := own_slice hown
          have hbt : (bytesOf (ts.take j) ++ t.bytes).length ≤ 140737488355328 := by
            have := t.bytes_le
            rw [List.length_append]; omega
          clear hown
          have hj9 := tot_len ts
          have hj9' := ht.out
          obtain ⟨i0, hi, hz0, hz1, hz2⟩ := info_parts infoInt
          go_wp2_with (at_builtin; refine wpList_append_own_at _ rfl (.tmp 38) (.tmp 41) 40 rfl w.heap.size 3 i0 (.int .i64 0) 1 8 Try.underlying40 hi hz0 hz1 hz2 rfl (by decide) _ _ _ rfl (hown4.alloc _) ⟨w4.heap.size, 0, none⟩ 1 1 [.int .i64 ((bytesOf (ts.take j)).length + t.bytes.length)] rfl rfl (cell_one_new _ _ _) ?_ ?_ ?_ ?_ ?_)
          case refine_1 => intro u hu; simp at hu; subst hu; rfl
          case refine_2 => simp only [maxLen]; omega
          case refine_3 => omega
          case refine_4 => simp only [asz]; have := B4.size; omega
          intro v' w5 hown5 hg5 _ hat5
          obtain ⟨xa', xc', rfl⟩ := own_slice hown5
          have B5 := (B4.alloc B4.size (.cells #[.int .i64 ((bytesOf (ts.take j)).length + t.bytes.length)] 3)).grown hg5 (by simp only [asz]; have := B4.size; omega) (own_lt hown4)
          go_wp2_with fail
          go_roundw
          case rel =>
            have e1 := bytesOf_take_succ HX.out
            refine ⟨j + 1, by omega, by go_num, by rw [e1], ?_, ?_, B5⟩
            · intro t' ht'
              rw [List.take_add_one, HX.out, List.mem_append] at ht'
              rcases ht' with h1 | h1
              · exact HM.out t' h1
              · simp at h1; subst h1; exact HY.out
            · rw [endsOf_snoc ts j hlt, e1]
              simpa using hown5
          case measure => simp [intOf]; omega
      · have hje : j = ts.length := by omega
        subst hje
        rw [List.take_length] at hown HM
        have hS : bytesOf (ts.take ts.length) = bytesOf ts := by rw [List.take_length]
        rw [hS] at hs4 ⊢
        clear hS
        generalize hsl : bytesOf ts = sl at hs4 ⊢
        have HS := Lib.hid hsl
        clear hsl
        obtain ⟨k, hkw, hk⟩ := cut_at cut sl.length (by omega)
        have hkt : (sl.take k).length = k := by rw [List.length_take]; omega
        go_wp2_with fail
        rw [hkw]
        refine (open_any _ _).mono ?_
        rintro e w3 ⟨rfl, r3, b3⟩
        have B3 := step_below hB b3
        have hg : w.heap.size ≤ wr.heap.size := hB.size
        have hown3 := own_below hown b3
        obtain ⟨ea, ec, rfl⟩ := own_slice hown
        generalize wr.heap.size = g at r3 hg
        clear b3 hown hkw
        go_wp2_with fail
        go_loopw [10] (fun v wr => ∃ j : Nat, j ≤ ts.length ∧ v = .int .i64 j ∧ (bytesOf (ts.take j)).length ≤ k ∧ RdAt g ⟨(sl.take k).drop (bytesOf (ts.take j)).length, 0⟩ wr ∧ wr.ownsRow w.heap.size 3 1 (.slice ea ts.length ec) ts.length ((endsOf ts).map (.int .i64)) ∧ Below w.heap.size w wr) (fun v _ => ts.length - (intOf v).toNat)
        case atStart =>
          exact ⟨0, Nat.zero_le _, rfl, by simp [bytesOf], by simpa [bytesOf] using r3, hown3, B3⟩
        case round =>
          clear B3 r3 hB hown3
          obtain ⟨j, hj, rfl, hle, hr, hown, hB⟩ := hrel
          by_cases hlt : j < ts.length
          · obtain ⟨t, htj⟩ : ∃ t, ts[j]? = some t := ⟨_, List.getElem?_eq_getElem hlt⟩
            have hmem := List.mem_of_getElem? htj
            obtain ⟨tok, hts, htl⟩ := hf t hmem
            have hsp := bytesOf_split htj
            rw [HS.out] at hsp
            have hsu := bytesOf_take_succ htj
            have hend := endsOf_get hlt
            rw [hsu, List.length_append] at hend
            have hsh := fun hh => cut_short (k := k) hsp hle hh
            have hlg := fun hh => cut_long (k := k) hsp hh
            obtain ⟨q, qc, hq⟩ := own_form hown (by omega)
            injection hq with hq hq2 hq3
            subst hq hq3
            rcases h.kept hB (Nat.le_refl _) with h0 | ⟨b, o, rfl, hbl, hc⟩
            · rw [h0] at hlt; simp at hlt
            obtain ⟨la, lc, hnums, c0, c1, c2, c3, c4⟩ := hc j t htj
            have hnext : (bytesOf (ts.take (j + 1))).length = (bytesOf (ts.take j)).length + t.bytes.length := by rw [hsu, List.length_append]
            have HN := Lib.hid hnext
            generalize (bytesOf (ts.take j)).length = p at hle hr hend HN hnext hsh hlg
            clear htj hc hsu hsp
            by_cases hcut : k < p + t.bytes.length
            · have hd : decide ((k : Int) < ((p + t.bytes.length : Nat) : Int)) = true := decide_eq_true (by omega)
              rw [hsh hcut] at hr
              have hgc := got_cut t tok (HM.out t hmem) (c := k - p) (by omega)
              clear hsh hlg
              go_wp2_with fail
              refine (got_any t la lc g _ _ tok.k.1 hr).mono ?_
              rintro e w4 ⟨xa, xc, rfl, hxn, hr4, o4⟩
              rw [hgc] at hr4 hxn ⊢
              have B4 := step_only hB o4 hg
              unfold Th.val
              dsimp only at hr4 hxn ⊢
              have ec4 := own_cell ((hown.kept o4 (own_ne hown hr (by decide))).alloc (.cells #[.int .u8 t.k, .int .u64 0, .string ⟨#[]⟩, .slice xa 0 xc, .int .i64 0] 34)) hend
              go_wp2_with fail
              refine (left_any g ⟨[], 8⟩ _ (Blk.alloc hr4 _)).mono ?_
              rintro e w6 ⟨rfl, rfl⟩
              go_wp2_with fail
              go_ret
              exact ⟨rfl, B4.alloc B4.size _⟩
            · have hd : decide ((k : Int) < ((p + t.bytes.length : Nat) : Int)) = false := decide_eq_false (by omega)
              rw [hlg (by omega)] at hr
              have hrl : ((sl.take k).drop (p + t.bytes.length)).length = k - (p + t.bytes.length) := by rw [List.length_drop, hkt]
              generalize hrest : (sl.take k).drop (p + t.bytes.length) = rest at hr hrl hlg
              have HR := Lib.hid hrest
              clear hrest
              clear hsh
              obtain ⟨x, hx, hxk, hxb⟩ := got_back t tok (HM.out t hmem) rest
              have hxok := got_only' t (t.bytes ++ rest) tok.k
              have hxs := got_short t ⟨t.bytes ++ rest, 0⟩
              rw [hx] at hxok hxs
              go_wp2_with fail
              refine (got_any t la lc g _ _ tok.k.1 hr).mono ?_
              rintro e w4 ⟨xa, xc, rfl, hxn, hr4, o4⟩
              rw [hx] at hr4 hxn ⊢
              dsimp only at hr4 hxn hxok hxs
              have hxk' : x.Ok := by
                rcases hxok with ⟨_, h, _⟩ | ⟨h, _⟩
                · exact h
                · exact absurd rfl h
              have B4 := step_only hB o4 hg
              have BO : Below w.heap.size wr w4 := below_only (Below.refl _ wr) o4 hg hB.size
              have BW : Below w4.heap.size w4 (w4.alloc (.cells #[.int .u8 x.k, .int .u64 x.n, .string ⟨x.s.toArray⟩, .slice xa x.l.length xc, .int .i64 x.most] 34)) := (Below.refl _ _).alloc (Nat.le_refl _) _
              have BV : Below w.heap.size wr (w4.alloc (.cells #[.int .u8 x.k, .int .u64 x.n, .string ⟨x.s.toArray⟩, .slice xa x.l.length xc, .int .i64 x.most] 34)) := BO.trans (BW.mono B4.size)
              have own4 := hown.kept o4 (own_ne hown hr (by decide))
              have ec4 := own_cell (own4.alloc (.cells #[.int .u8 x.k, .int .u64 x.n, .string ⟨x.s.toArray⟩, .slice xa x.l.length xc, .int .i64 x.most] 34)) hend
              have HT := Lib.hid (And.intro (And.intro hxk' tok) (And.intro ((hxn.kept BW (Nat.le_refl _)).more BW.size) ((hnums.kept BV (Nat.le_refl _)).more (B4.trans (BW.mono B4.size)).size)))
              obtain ⟨q0, q1, q2, q3, q4⟩ := five_kept BV hbl c0 c1 c2 c3 c4
              obtain ⟨p0, p1, p2, p3, p4⟩ := five_new w4 (.int .u8 x.k) (.int .u64 x.n) (.string ⟨x.s.toArray⟩) (.slice xa x.l.length xc) (.int .i64 x.most)
              have HB := Lib.hid (And.intro B4 BW)
              have HK := Lib.hid (like_true hxk hxb)
              have hr4' : RdAt g ⟨rest, 0⟩ (w4.alloc (.cells #[.int .u8 x.k, .int .u64 x.n, .string ⟨x.s.toArray⟩, .slice xa x.l.length xc, .int .i64 x.most] 34)).drew := Blk.drew (Blk.alloc hr4 _)
              unfold Th.val
              dsimp only
              clear hx hxok hxk hxb hxn hnums tok hxk' BW BO BV B4 c0 c1 c2 c3 c4
              go_wp2_with fail
              go_region_held3 (fun w' => w'.cell? ⟨w4.heap.size, 0, none⟩ = some (.int .u8 x.k) ∧ w'.cell? ⟨w4.heap.size, 1, none⟩ = some (.int .u64 x.n) ∧ w'.cell? ⟨w4.heap.size, 2, none⟩ = some (.string ⟨x.s.toArray⟩) ∧ w'.cell? ⟨w4.heap.size, 3, none⟩ = some (.slice xa x.l.length xc) ∧ w'.cell? ⟨w4.heap.size, 4, none⟩ = some (.int .i64 x.most) ∧
                  w'.cell? ⟨b, o + j * 5, none⟩ = some (.int .u8 t.k) ∧ w'.cell? ⟨b, o + j * 5 + 1, none⟩ = some (.int .u64 t.n) ∧ w'.cell? ⟨b, o + j * 5 + 2, none⟩ = some (.string ⟨t.s.toArray⟩) ∧ w'.cell? ⟨b, o + j * 5 + 3, none⟩ = some (.slice la t.l.length lc) ∧ w'.cell? ⟨b, o + j * 5 + 4, none⟩ = some (.int .i64 t.most) ∧ w'.cell? ⟨q, j, none⟩ = some (.int .i64 ((p + t.bytes.length : Nat) : Int)))
                (first | exact ⟨p0, p1, p2, p3, p4, q0, q1, q2, q3, q4, ec4⟩ | exact ⟨cell_keepd p0 b5, cell_keepd p1 b5, cell_keepd p2 b5, cell_keepd p3 b5, cell_keepd p4 b5, cell_keepd q0 b5, cell_keepd q1 b5, cell_keepd q2 b5, cell_keepd q3 b5, cell_keepd q4 b5, cell_keepd ec4 b5⟩ | go_keep)
                (first
                | (go_at_call 31; (with_reducible refine (like_agg x t xa la xc lc _ true HT.out.1.1 HT.out.1.2 HT.out.2.1 HT.out.2.2 hxs hts htl HK.out).mono ?_); rintro e w5 ⟨rfl, b5⟩)
                | (go_at_call 30; (with_reducible refine (left_any g ⟨rest, 0⟩ _ (rd_kept hr4' b5)).mono ?_); rintro e w6 ⟨rfl, rfl⟩))
              have hcmp : (((k - (p + t.bytes.length) : Nat) : Int) != IntKind.i64.wrap ((k : Int) - ((p : Int) + (t.bytes.length : Int)))) = false := by
                rw [IntKind.wrap_i64]
                simp only [bne_eq_false_iff_eq]
                omega
              go_wp2_with fail
              go_roundw
              case rel =>
                refine ⟨j + 1, by omega, by go_num, by rw [HN.out]; omega, ?_, own_below (own4.alloc _).drew b5, step_below ((HB.out.1.trans (HB.out.2.mono HB.out.1.size)).drew) b5⟩
                rw [HN.out, HR.out]
                exact rd_kept hr4' b5
              case measure => simp [intOf]; omega
          · have hje : j = ts.length := by omega
            subst hje
            rw [List.take_length, HS.out] at hle hr
            have hr' : (sl.take k).drop sl.length = [] := List.drop_eq_nil_of_le (by omega)
            rw [hr'] at hr
            go_wp2_with fail
            refine (end_any g ⟨[], 0⟩ _ hr).mono ?_
            rintro e w5 ⟨rfl, hr5, o5⟩
            have ef : RS.fin ⟨[], 0⟩ = ⟨[], 0⟩ := rfl
            rw [ef] at hr5 ⊢
            clear ef
            go_wp2_with fail
            go_ret
            exact ⟨rfl, step_only hB o5 hg⟩
end Go.Proofs.Ytdnkijljpmcejaa
