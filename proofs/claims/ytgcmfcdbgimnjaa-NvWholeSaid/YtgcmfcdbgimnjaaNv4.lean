/- The walk of slices.DeleteFunc over records, by number. No further condition. -/
import Derived.Test.YtgcmfcdbgimnjaaNv3
import Derived.Laws.CopyRow
namespace Go.Proofs.Ytgcmfcdbgimnjaa
open Go.RowKit
attribute [local go_sem ↓] Go.wp_at_zero Go.wp_at_succ

theorem own_cut {w : World} {base : Nat} {e : TypeId} {size n m c : Nat} {A : Option Addr} {xs : List Value} (k : w.ownsRow base e size (.slice A n c) n xs) (h : m ≤ n) : w.ownsRow base e size (.slice A m c) m (xs.take (m * size)) := by
  have hm := Nat.mul_le_mul_right size h
  refine ⟨by have := k.1; rw [List.length_take]; omega, ?_⟩
  rcases k.2 with ⟨e1, e2⟩ | ⟨g, cap, cur, e1, hb, hh, hnc, hmx, hs, hx⟩
  · injection e1 with e1 e3 e4
    subst e1 e3 e4
    obtain rfl : m = 0 := by omega
    exact .inl ⟨rfl, by simp⟩
  · injection e1 with e1 e3 e4
    subst e1 e4
    exact .inr ⟨g, c, cur, rfl, hb, hh, by omega, hmx, hs, by rw [← hx, List.take_take, Nat.min_eq_left hm]⟩
theorem rcs_set4 (x : Rc) : ∀ (l : List Rc) (i : Nat), i < l.length → (((((rcs l).set (i * 4) (.int .u64 x.seq)).set (i * 4 + 1) (.int .i64 x.kind)).set (i * 4 + 2) (.int .i64 x.lba)).set (i * 4 + 3) (.slice x.A x.raw.length x.c)) = rcs (l.set i x)
  | [], i, h => by simp at h
  | a :: l, 0, _ => rfl
  | a :: l, i + 1, h => by
    have ih := rcs_set4 x l i (by simpa using h)
    show ((((rcv a ++ rcs l).set _ _).set _ _).set _ _).set _ _ = rcv a ++ rcs (l.set i x)
    rw [← ih]
    have hl : (rcv a).length = 4 := rfl
    rw [List.set_append_right _ _ (by rw [hl]; omega), List.set_append_right _ _ (by rw [hl]; omega), List.set_append_right _ _ (by rw [hl]; omega), List.set_append_right _ _ (by rw [hl]; omega), hl]
    rw [show (i + 1) * 4 - 4 = i * 4 by omega, show (i + 1) * 4 + 1 - 4 = i * 4 + 1 by omega, show (i + 1) * 4 + 2 - 4 = i * 4 + 2 by omega, show (i + 1) * 4 + 3 - 4 = i * 4 + 3 by omega]
/-- One record of a row, laid anew. -/
theorem row_set {w : World} {B b n c i : Nat} {m : List Rc} (k : w.ownsRow B 45 4 (.slice (some ⟨b, 0, none⟩) n c) n (rcs m)) (hm : m.length = n) (hi : i < n) (x : Rc) :
    ((((w.setCell ⟨b, i * 4, none⟩ (.int .u64 x.seq)).setCell ⟨b, i * 4 + 1, none⟩ (.int .i64 x.kind)).setCell ⟨b, i * 4 + 2, none⟩ (.int .i64 x.lba)).setCell ⟨b, i * 4 + 3, none⟩ (.slice x.A x.raw.length x.c)).ownsRow B 45 4 (.slice (some ⟨b, 0, none⟩) n c) n (rcs (m.set i x)) ∧
    Fr (· = b) w ((((w.setCell ⟨b, i * 4, none⟩ (.int .u64 x.seq)).setCell ⟨b, i * 4 + 1, none⟩ (.int .i64 x.kind)).setCell ⟨b, i * 4 + 2, none⟩ (.int .i64 x.lba)).setCell ⟨b, i * 4 + 3, none⟩ (.slice x.A x.raw.length x.c)) ∧ (∀ o, w.frozen? ⟨b, o, none⟩ = false) := by
  rcases k.2 with ⟨e1, e2⟩ | ⟨g, cap, cur, e1, hb, hh, hnc, hmx, hs, hx⟩
  · cases e1
  · injection e1 with e1 e3 e4
    injection e1 with e1
    injection e1 with e1
    subst e1 e4
    have hk : Blk w b 45 cur := hh
    refine ⟨⟨by rw [rcs_len, List.length_set, hm], .inr ⟨b, c, _, rfl, hb, (((hk.set_ _ _).set_ _ _).set_ _ _).set_ _ _, hnc, hmx, by simpa using hs, ?_⟩⟩, ?_, hk.frozen⟩
    · simp only [Array.toList_setIfInBounds, List.take_set, hx]
      exact rcs_set4 x m i (by omega)
    · exact Fr.setCell (Fr.setCell (Fr.setCell (Fr.setCell (Fr.refl (· = b) w) (p := ⟨b, i * 4, none⟩) (.inl rfl) _) (p := ⟨b, i * 4 + 1, none⟩) (.inl rfl) _) (p := ⟨b, i * 4 + 2, none⟩) (.inl rfl) _) (p := ⟨b, i * 4 + 3, none⟩) (.inl rfl) _
theorem run_clear_rows (w : World) (g o n c : Nat) (cur : Array Value) (hb : Blk w g 45 cur) (hfit : o + n * 4 ≤ cur.size) :
    ∃ w' cur', (∀ ty, (Builtin.clear_ #[42] ty #[.slice (some ⟨g, o, none⟩) n c]).run Try.prog w = .ok (.tuple #[]) w') ∧ Blk w' g 45 cur' ∧ cur'.size = cur.size ∧ cur'.toList.take o = cur.toList.take o ∧ Fr (· = g) w w' := by
  rcases Nat.eq_zero_or_pos n with h0 | h0
  · subst h0
    exact ⟨w, cur, fun ty => by simp [Builtin.clear_, run_underlying Try.underlying42], hb, rfl, rfl, Fr.refl _ _⟩
  · obtain ⟨zs, hzs⟩ : ∃ zs, zs = (Builtin.zeroCells (Value.agg #[.int .u64 0, .int .i64 0, .int .i64 0, .slice none 0 0]).cells n).toList := ⟨_, rfl⟩
    have hzl : zs.length = n * 4 := by rw [hzs]; simp [Builtin.zeroCells, Value.cells]
    have hz1 : ∀ v ∈ zs, v.oneCell' = true := by
      intro v hv
      rw [hzs] at hv
      simp only [Builtin.zeroCells, Value.cells, Array.toList_map, Array.toList_range, List.mem_map, List.mem_range] at hv
      obtain ⟨j, hj, rfl⟩ := hv
      have h4 : j % 4 < 4 := Nat.mod_lt _ (by decide)
      have : ∀ q, q < 4 → ((#[.int .u64 0, .int .i64 0, .int .i64 0, .slice none 0 0] : Array Value)[q]!).oneCell' = true := by
        intro q hq
        match q, hq with
        | 0, _ => rfl
        | 1, _ => rfl
        | 2, _ => rfl
        | 3, _ => rfl
      exact this _ h4
    have hst := run_storeCells_at Try.prog g o 45 zs 0 cur w hb (by rw [hzl]; simpa using hfit) hz1
    have hzv : ∀ w : World, (zeroValue 45).run Try.prog w = .ok (.agg #[.int .u64 0, .int .i64 0, .int .i64 0, .slice none 0 0]) w := fun w => by kernel_rfl
    obtain ⟨m, rfl⟩ : ∃ m, n = m + 1 := ⟨n - 1, by omega⟩
    simp only [Nat.add_zero] at hst
    obtain ⟨cur', hc'⟩ : ∃ cur', cur' = (cur.toList.take o ++ zs ++ cur.toList.drop (o + zs.length)).toArray := ⟨_, rfl⟩
    rw [← hc'] at hst
    refine ⟨w.setRow g cur', cur', ?_, setRow_heap w g cur cur' 45 _ hb, ?_, ?_, ?_⟩
    · intro ty; simp [Builtin.clear_, run_underlying Try.underlying42, hzv, ← hzs, hst]
    · rw [hc']
      simp [hzl]
      omega
    · rw [hc']
      simp only [List.append_assoc]
      rw [List.take_append_of_le_length (by simp; omega), List.take_take, Nat.min_self]
    · refine ⟨rfl, rfl, rfl, ?_, fun b hb' hne => ?_⟩
      · simp [World.setRow]
      · simp [World.setRow, Array.getElem?_modify, Ne.symm hne]
/-- Is a record's number up to another one? -/
def upq (q : Int) (r : Rc) : Bool := decide (r.seq ≤ q)
def keep (q : Int) (l : List Rc) : List Rc := l.filter fun r => !upq q r
set_option maxHeartbeats 1600000 in
theorem cl_ok (s : Rc) (u : Nat) (q : Int) (w : World) (hb : Blk w u 31 #[.int .u64 q]) :
    Calls Try.prog 25 #[.agg #[.int .u64 s.seq, .int .i64 s.kind, .int .i64 s.lba, .slice s.A s.raw.length s.c], .pointer (some ⟨u, 0, none⟩)] w fun e w' => e = .returned (.bool (upq q s)) ∧ Below w.heap.size w w' := by
  have c1 := (hb.alloc (.cells #[.int .u64 s.seq, .int .i64 s.kind, .int .i64 s.lba, .slice s.A s.raw.length s.c] 45)).cells1
  clear hb
  go_enter Try.func25, Try.ntmps25
  go_wp2
  go_ret
  exact ⟨rfl, (Below.refl _ _).alloc (Nat.le_refl _) _⟩
set_option maxRecDepth 100000 in
set_option maxHeartbeats 3200000 in
theorem index_ok (A : Option Addr) (c : Nat) (l : List Rc) (u : Nat) (q : Int) (w : World) (ra : Rd w A (rcs l)) (hl : l.length ≤ 100000) (hb : Blk w u 31 #[.int .u64 q]) :
    Calls Try.prog 28 #[.slice A l.length c, .func (.func 25) #[] #[.pointer (some ⟨u, 0, none⟩)]] w fun e w' => ∃ i : Int, e = .returned (.int .i64 i) ∧ ((i = -1 ∧ keep q l = l) ∨ ∃ j : Nat, i = j ∧ j < l.length ∧ keep q (l.take j) = l.take j ∧ ∃ s, l[j]? = some s ∧ upq q s = true) ∧ Below w.heap.size w w' := by
  have HRA := Lib.hid ra
  have HBK := Lib.hid hb
  clear ra hb
  go_enter Try.func28, Try.ntmps28
  go_wp2
  go_loopw [5, 8] (fun _ i wr => ∃ k : Nat, k ≤ l.length ∧ i = .int .i64 k ∧ keep q (l.take k) = l.take k ∧ Below w.heap.size w wr) (fun _ i _ => l.length - (intOf i).toNat)
  case atStart => exact ⟨0, by omega, rfl, rfl, Below.refl _ _⟩
  case round =>
    obtain ⟨k, hk, rfl, hn, hB⟩ := hrel
    have hbs := hB.size
    by_cases hlt : k < l.length
    · obtain ⟨s, hs⟩ : ∃ s, l[k]? = some s := ⟨_, List.getElem?_eq_getElem hlt⟩
      obtain ⟨y, rfl, c0, c1, c2, c3⟩ := rd_at (HRA.out.later hB) hs
      have g1 : (k : Int) < l.length := by omega
      have HBr := Lib.hid (HBK.out.later hB)
      have HS := Lib.hid hs
      have HN := Lib.hid hn
      have HB := Lib.hid hB
      clear hs hn hB
      rcases hq : upq q s with _ | _
      all_goals
        go_wp2_with (go_at_call 25; refine (cl_ok s u q _ HBr.out).mono ?_; rintro e w2 ⟨rfl, hb2⟩; rw [hq]; have HB2 := Lib.hid (HB.out.trans (hb2.mono hbs)); clear hb2)
      · go_roundw
        case rel =>
          refine ⟨k + 1, by omega, by go_num, ?_, HB2.out⟩
          rw [take_snoc_pk HS.out]
          unfold keep at HN ⊢
          rw [List.filter_append, HN.out]
          simp [hq]
        case measure => simp [intOf]; omega
      · go_ret
        exact ⟨k, rfl, .inr ⟨k, rfl, by omega, HN.out, s, HS.out, hq⟩, HB2.out⟩
    · obtain rfl : k = l.length := by omega
      rw [List.take_length] at hn
      go_wp2
      go_ret
      exact ⟨-1, rfl, .inl ⟨rfl, hn⟩, hB⟩
theorem row_cells {w : World} {B b n c i : Nat} {m : List Rc} {s : Rc} (k : w.ownsRow B 45 4 (.slice (some ⟨b, 0, none⟩) n c) n (rcs m)) (hs : m[i]? = some s) :
    w.cell? ⟨b, i * 4, none⟩ = some (.int .u64 s.seq) ∧ w.cell? ⟨b, i * 4 + 1, none⟩ = some (.int .i64 s.kind) ∧ w.cell? ⟨b, i * 4 + 2, none⟩ = some (.int .i64 s.lba) ∧ w.cell? ⟨b, i * 4 + 3, none⟩ = some (.slice s.A s.raw.length s.c) := by
  obtain ⟨x, e, h0, h1, h2, h3⟩ := rd_at (Rd.of_own k) hs
  injection e with e
  subst e
  rw [add_zero_addr, Nat.zero_add] at h0 h1 h2 h3
  exact ⟨h0, h1, h2, h3⟩
theorem keep_snoc {q : Int} {l : List Rc} {k : Nat} {s : Rc} (h : l[k]? = some s) : keep q (l.take (k + 1)) = keep q (l.take k) ++ if upq q s = true then [] else [s] := by
  rw [take_snoc_pk h]
  unfold keep
  rw [List.filter_append]
  congr 1
  rcases hq : upq q s <;> simp [hq]
theorem keep_len (q : Int) (l : List Rc) : (keep q l).length ≤ l.length := List.length_filter_le _ _
set_option maxRecDepth 100000 in
set_option maxHeartbeats 12800000 in
theorem delete_ok (B : Nat) (A : Option Addr) (c : Nat) (l : List Rc) (u : Nat) (q : Int) (w : World) (row : w.ownsRow B 45 4 (.slice A l.length c) l.length (rcs l)) (hl : l.length ≤ 100000) (hb : Blk w u 31 #[.int .u64 q]) :
    Calls Try.prog 24 #[.slice A l.length c, .func (.func 25) #[] #[.pointer (some ⟨u, 0, none⟩)]] w fun e w' => e = .returned (.slice A (keep q l).length c) ∧ w'.ownsRow B 45 4 (.slice A (keep q l).length c) (keep q l).length (rcs (keep q l)) ∧ Fr (fun b => (Value.slice A l.length c).ownBlock = some b) w w' := by
  have HRO := Lib.hid row
  have HBU := Lib.hid hb
  have HIX := Lib.hid (index_ok A c l u q w (Rd.of_own row) hl hb)
  have hnu : (Value.slice A l.length c).ownBlock ≠ some u := own_blk_ne row hb (by decide)
  have HNU := Lib.hid hnu
  obtain ⟨n, hn⟩ : ∃ n, n = l.length := ⟨_, rfl⟩
  rw [← hn] at HRO HIX HNU hl ⊢
  have HN := Lib.hid hn
  clear row hb hnu hn
  go_enter Try.func24, Try.ntmps24
  go_upto_region 2 with (go_at_call 28; (with_reducible refine HIX.out.mono ?_); rintro e w1 ⟨i, rfl, hi, hb1⟩; have HI := Lib.hid hi; have HB1 := Lib.hid hb1; clear hi hb1)
  rcases HI.out with ⟨rfl, hk⟩ | ⟨j, rfl, hj, hk, s0, hs0, hq0⟩
  · have HK := Lib.hid hk
    clear hk
    go_wp2
    go_ret
    rw [HK.out, ← HN.out]
    exact ⟨rfl, ownsRow_later HRO.out HB1.out, Fr.of_below HB1.out fun b h1 h2 => by omega⟩
  · obtain ⟨b0, cap, cur, hv, -, -, -, -⟩ := own_block HRO.out (by have := HN.out; omega)
    injection hv with hv hv2 hv3
    subst hv hv3
    have hcap : n ≤ c := by
      obtain ⟨A', c', e, -, h3, -⟩ := ofc HRO.out
      injection e with e1 e2 e3
      omega
    have hjn : j < n := by have := HN.out; omega
    have hst : keep q (l.take (j + 1)) = l.take j := by rw [keep_snoc hs0, if_pos hq0, List.append_nil, hk]
    have HST := Lib.hid hst
    clear hk hs0 hq0 hj hst HI
    have hd1 : ((j : Int) == -1) = false := beq_eq_false_iff_ne.2 (by omega)
    go_wp2
    go_loopw [5, 6, 7] (fun i z _ wr => ∃ (a b : Nat) (m : List Rc), m.length = n ∧ a < b ∧ b ≤ n ∧ i = .int .i64 a ∧ z = .int .i64 b ∧ m.take a = keep q (l.take b) ∧ m.drop b = l.drop b ∧ wr.ownsRow B 45 4 (.slice (some ⟨b0, 0, none⟩) n c) n (rcs m) ∧ Fr (fun x => (Value.slice (some ⟨b0, 0, none⟩) n c).ownBlock = some x) w wr) (fun _ z _ _ => n - (intOf z).toNat)
    case atStart => exact ⟨j, j + 1, l, by rw [HN.out], by omega, by omega, rfl, by go_num, HST.out.symm, rfl, ownsRow_later HRO.out HB1.out, Fr.of_below HB1.out fun b h1 h2 => by omega⟩
    case round =>
      obtain ⟨a, b, m, hm, hab, hbn, rfl, rfl, ht, hd, hrow, hF⟩ := hrel
      have HT := Lib.hid ht
      have HD := Lib.hid hd
      have HR := Lib.hid hrow
      have HF := Lib.hid hF
      have HM := Lib.hid hm
      have hbc : (n : Int) ≤ c := by omega
      by_cases hlt : b < n
      · obtain ⟨s, hs⟩ : ∃ s, l[b]? = some s := ⟨_, List.getElem?_eq_getElem (by have := HN.out; omega)⟩
        have hms : m[b]? = some s := by
          have h1 : (m.drop b)[0]? = (l.drop b)[0]? := by rw [hd]
          rw [List.getElem?_drop, List.getElem?_drop, Nat.add_zero] at h1
          rw [h1, hs]
        obtain ⟨y, hy⟩ : ∃ y, m[a]? = some y := ⟨_, List.getElem?_eq_getElem (by omega)⟩
        obtain ⟨c0, c1, c2, c3⟩ := row_cells hrow hms
        have HS := Lib.hid hs
        have HY := Lib.hid hy
        have g1 : (b : Int) < n := by omega
        have g2 : (a : Int) < n := by omega
        have hbu := HBU.out.fr hF HNU.out
        have hba := (Below.refl wr.heap.size wr).alloc (Nat.le_refl _) (.cells #[.int .u64 s.seq, .int .i64 s.kind, .int .i64 s.lba, .slice s.A s.raw.length s.c] 45)
        have HBU2 := Lib.hid (hbu.later hba)
        have HX := Lib.hid (Blk.new wr 45 #[.int .u64 s.seq, .int .i64 s.kind, .int .i64 s.lba, .slice s.A s.raw.length s.c])
        have HRa := Lib.hid (ownsRow_later hrow hba)
        have HFa := Lib.hid (hF.later hba)
        clear hs hms hy ht hd hrow hF hm hbu hba
        rcases hq : upq q s with _ | _
        all_goals
          go_wp2_with (go_at_call 25; (with_reducible refine (cl_ok s u q _ HBU2.out).mono ?_); rintro e w2 ⟨rfl, hb2⟩; rw [hq]; have HR2 := Lib.hid (ownsRow_later HRa.out hb2); have HF2 := Lib.hid (HFa.out.later hb2); have HX2 := Lib.hid (HX.out.later hb2); have x0 := HX2.out.at_ (i := 0) (u := .int .u64 s.seq) rfl; have x1 := HX2.out.at_ (i := 1) (u := .int .i64 s.kind) rfl; have x2 := HX2.out.at_ (i := 2) (u := .int .i64 s.lba) rfl; have x3 := HX2.out.at_ (i := 3) (u := .slice s.A s.raw.length s.c) rfl; obtain ⟨y0, y1, y2, y3⟩ := row_cells HR2.out HY.out; have hrs := row_set HR2.out HM.out (show a < n by omega) s; have fz := hrs.2.2; have HRS := Lib.hid hrs; clear hrs hb2)
        · go_roundw
          case rel =>
            refine ⟨a + 1, b + 1, m.set a s, by rw [List.length_set, HM.out], by omega, by omega, by go_num, by go_num, ?_, ?_, HRS.out.1, HF2.out.trans (HRS.out.2.1.mono fun x _ e => by rw [e]; rfl) fun _ _ e => e⟩
            · rw [keep_snoc HS.out, hq, if_neg (by decide), ← HT.out, List.take_add_one, List.getElem?_set_self (by have := HM.out; omega), List.take_set_of_le (Nat.le_refl _)]
              rfl
            · rw [List.drop_set_of_lt (by omega), ← List.drop_drop, ← List.drop_drop, HD.out]
          case measure => simp [intOf]; omega
        · go_roundw
          case rel =>
            refine ⟨a, b + 1, m, HM.out, by omega, by omega, rfl, by go_num, ?_, ?_, HR2.out, HF2.out⟩
            · rw [keep_snoc HS.out, if_pos hq, List.append_nil, HT.out]
            · rw [← List.drop_drop, ← List.drop_drop, HD.out]
          case measure => simp [intOf]; omega
      · obtain rfl : b = n := by omega
        have hcut := fun W => cut_hi_ 42 4 (by kernel_rfl) (fun _ => by kernel_rfl) (some ⟨b0, 0, none⟩) b c a (a : Int) rfl (by omega) W
        rw [if_neg (show ¬ c = a by omega), Option.map_some, add_zero_addr, Nat.zero_add] at hcut
        have hcut2 := fun W => cut_lo_ 42 4 (by kernel_rfl) (fun _ => by kernel_rfl) (some ⟨b0, 0, none⟩) b c a (a : Int) rfl (by omega) W
        obtain ⟨g9, cap9, cur9, e9, hg9, hh9, hs9, hx9⟩ := own_block hrow (by omega)
        injection e9 with e1 e2 e3
        injection e1 with e1
        injection e1 with e1
        subst e1 e3
        obtain ⟨wz, curz, hcl, hz1, hz2, hz3, hz4⟩ := run_clear_rows wr b0 (a * 4) (b - a) (c - a) cur9 hh9 (by omega)
        have hcq : ∀ x, x = a → keep q l = m.take x := fun x hx => by rw [hx, ht, HN.out, List.take_length]
        have hkl : (keep q l).length = a := by rw [hcq a rfl, List.length_take]; omega
        have hfin : wz.ownsRow B 45 4 (.slice (some ⟨b0, 0, none⟩) a c) a (rcs (m.take a)) := by
          rcases hrow.2 with ⟨e, -⟩ | ⟨g', cap', cur', e, hb', hh', hnc, hmx, hs', hx'⟩
          · cases e
          · injection e with e1 e2 e3
            injection e1 with e1
            injection e1 with e1
            subst e1 e3
            have hcc : cur' = cur9 := by
              have h1 : wr.heap[b0]? = some (.cells cur9 45 (0, 0)) := hh9
              rw [hh'] at h1
              injection h1 with h1
              injection h1
            subst hcc
            refine ⟨by rw [rcs_len, List.length_take, Nat.min_eq_left (by omega)], .inr ⟨b0, c, curz, rfl, hb', hz1, by omega, hmx, by rw [hz2, hs'], ?_⟩⟩
            rw [hz3, ← rcs_take, ← hx', List.take_take, Nat.min_eq_left (by omega)]
        have HFIN := Lib.hid hfin
        have HKL := Lib.hid hkl
        have HKT := Lib.hid (hcq a rfl)
        have HFZ := Lib.hid (hF.trans (hz4.mono fun x _ e => by rw [e]; rfl) fun _ _ e => e)
        clear ht hd hrow hF hm hh9 hs9 hx9 hg9 hz1 hz2 hz3 hz4 hcq hkl hfin
        go_wp2
        go_ret
        rw [HKL.out, HKT.out]
        exact ⟨rfl, HFIN.out, HFZ.out⟩
end Go.Proofs.Ytgcmfcdbgimnjaa
