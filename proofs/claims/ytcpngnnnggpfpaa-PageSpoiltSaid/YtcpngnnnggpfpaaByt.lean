/- Bytes as values, and the walks of slices.Equal and slices.Clone over them. No further condition. -/
import Derived.Test.YtcpngnnnggpfpaaKit
namespace Go.Proofs.Ytcpngnnnggpfpaa
open Go.RowKit

/-! ### bytes -/
def byv (l : List Int) : List Value := l.map fun b => .int .u8 b
theorem byv_len (l : List Int) : (byv l).length = l.length := by simp [byv]
theorem byv_one (l : List Int) : ∀ u ∈ byv l, u.oneCell' = true := by
  intro u hu
  obtain ⟨b, _, rfl⟩ := List.mem_map.1 hu
  rfl
theorem byv_app (l m : List Int) : byv (l ++ m) = byv l ++ byv m := by simp [byv]
theorem byv_take (l : List Int) (n : Nat) : byv (l.take n) = (byv l).take n := by simp [byv, List.map_take]
theorem byv_drop (l : List Int) (n : Nat) : byv (l.drop n) = (byv l).drop n := by simp [byv, List.map_drop]
def Oct (l : List Int) : Prop := ∀ x ∈ l, 0 ≤ x ∧ x < 256
theorem Oct.take {l : List Int} (h : Oct l) (n : Nat) : Oct (l.take n) := fun x hx => h x (List.mem_of_mem_take hx)
theorem Oct.drop {l : List Int} (h : Oct l) (n : Nat) : Oct (l.drop n) := fun x hx => h x (List.mem_of_mem_drop hx)
theorem Oct.app {l m : List Int} (h : Oct l) (h' : Oct m) : Oct (l ++ m) := fun x hx => by
  rcases List.mem_append.1 hx with hx | hx
  · exact h x hx
  · exact h' x hx
theorem take_snoc_pk {α : Type} {l : List α} {k : Nat} {x : α} (h : l[k]? = some x) : l.take (k + 1) = l.take k ++ [x] := by
  rw [List.take_add_one, h]
  rfl
theorem Rd.blk_all {w : World} {g : Nat} {t : TypeId} {xs : List Value} (k : Blk w g t xs.toArray) : Rd w (some ⟨g, 0, none⟩) xs := by
  have := Rd.of_blk k 0 xs.length
  rw [List.drop_zero, List.take_of_length_le (by simp)] at this
  simpa using this
theorem exists_list {α : Type} (P : Nat → α → Prop) : ∀ n, (∀ i, i < n → ∃ v, P i v) → ∃ l : List α, l.length = n ∧ ∀ i v, l[i]? = some v → P i v := by
  intro n
  induction n with
  | zero => intro _; exact ⟨[], rfl, fun i v h => by simp at h⟩
  | succ n ih =>
    intro h
    obtain ⟨l, hl, hP⟩ := ih fun i hi => h i (by omega)
    obtain ⟨v, hv⟩ := h n (by omega)
    refine ⟨l ++ [v], by simp [hl], fun i u hu => ?_⟩
    rcases Nat.lt_or_ge i n with h1 | h1
    · rw [List.getElem?_append_left (by omega)] at hu
      exact hP i u hu
    · have e : i = n := by
        have := (List.getElem?_eq_some_iff.1 hu).1
        simp at this
        omega
      subst e
      rw [List.getElem?_append_right (by omega)] at hu
      simp [hl] at hu
      subst hu
      exact hv
theorem add_field (x : Addr) (i j : Nat) (hj : 0 < j) : x.add (i + j) = ⟨(x.add i).block, (x.add i).off + j, none⟩ := by
  rw [← add_of_add]
  generalize x.add i = y
  unfold Addr.add
  rw [if_neg (by omega)]
theorem u8_in_ {b : Int} (h : (Lit.int .u8 b).wf = true) : 0 ≤ b ∧ b < 256 := by simp [Lit.wf, IntKind.min, IntKind.max, IntKind.bits, IntKind.signed] at h; omega
theorem i8_in_ {b : Int} (h : (Lit.int .i8 b).wf = true) : -128 ≤ b ∧ b ≤ 127 := by simp [Lit.wf, IntKind.min, IntKind.max, IntKind.bits, IntKind.signed] at h; omega
theorem u64_in_ {b : Int} (h : (Lit.int .u64 b).wf = true) : 0 ≤ b ∧ b ≤ 18446744073709551615 := by simp [Lit.wf, IntKind.min, IntKind.max, IntKind.bits, IntKind.signed] at h; omega
def IsB (w : World) (a : Option Addr) (len cap : Nat) (zs : List Int) : Prop :=
  (a = none ∧ len = 0 ∧ cap = 0 ∧ zs = []) ∨
  ∃ x, a = some x ∧ len ≤ cap ∧ cap ≤ maxLen ∧ zs.length = cap ∧ (∀ i, i < zs.length → w.cell? (x.add i) = some (.int .u8 (zs.getD i 0))) ∧ ∀ n ∈ zs, (Lit.int .u8 n).wf = true
theorem isB_of {w : World} {a : Option Addr} {len cap : Nat} {zs : List Int} (h : IsB w a len cap zs) : ∃ raw : List Int, raw.length = len ∧ Rd w a (byv raw) ∧ Oct raw ∧ len ≤ cap := by
  rcases h with ⟨rfl, rfl, rfl, rfl⟩ | ⟨x, rfl, h1, h2, h3, h4, h5⟩
  · exact ⟨[], rfl, Rd.nil _ _, (fun x hx => by simp at hx), Nat.le_refl _⟩
  · refine ⟨zs.take len, by rw [List.length_take]; omega, fun j u hu => ?_, fun x hx => u8_in_ (h5 x (List.mem_of_mem_take hx)), h1⟩
    rw [byv_take, List.getElem?_take] at hu
    split at hu
    · unfold byv at hu
      rw [List.getElem?_map] at hu
      have hj : j < zs.length := by omega
      rw [List.getElem?_eq_getElem hj] at hu
      injection hu with hu
      refine ⟨x, rfl, ?_⟩
      rw [h4 j hj, ← hu, List.getD_eq_getElem?_getD, List.getElem?_eq_getElem hj]
      rfl
    · cases hu
theorem i16_in_ {b : Int} (h : (Lit.int .i16 b).wf = true) : -32768 ≤ b ∧ b ≤ 32767 := by simp [Lit.wf, IntKind.min, IntKind.max, IntKind.bits, IntKind.signed] at h; omega
theorem u16_in_ {b : Int} (h : (Lit.int .u16 b).wf = true) : 0 ≤ b ∧ b < 65536 := by simp [Lit.wf, IntKind.min, IntKind.max, IntKind.bits, IntKind.signed] at h; omega
theorem u32_in_ {b : Int} (h : (Lit.int .u32 b).wf = true) : 0 ≤ b ∧ b < 4294967296 := by simp [Lit.wf, IntKind.min, IntKind.max, IntKind.bits, IntKind.signed] at h; omega
theorem i64_in_ {b : Int} (h : (Lit.int .i64 b).wf = true) : -9223372036854775808 ≤ b ∧ b ≤ 9223372036854775807 := by simp [Lit.wf, IntKind.min, IntKind.max, IntKind.bits, IntKind.signed] at h; omega
set_option maxHeartbeats 1600000 in
theorem equalb_ok (A B : Option Addr) (c d : Nat) (l m : List Int) (w : World) (ra : Rd w A (byv l)) (rb : Rd w B (byv m)) (hl : l.length ≤ 10000000) :
    Calls Try.prog 15 #[.slice A l.length c, .slice B m.length d] w fun e w' => e = .returned (.bool (decide (l = m))) ∧ ∃ n, w' = w.drewN n := by
  obtain ⟨r, hr⟩ : ∃ r, r = decide (l = m) := ⟨_, rfl⟩
  rw [← hr]
  have HR := Lib.hid hr
  clear hr
  by_cases hlen : l.length = m.length
  · go_enter Try.func15, Try.ntmps15
    go_wp2
    go_loopw [13] (fun i wr => ∃ k nq : Nat, k ≤ l.length ∧ i = .int .i64 k ∧ l.take k = m.take k ∧ wr = w.drewN nq) (fun i _ => l.length - (intOf i).toNat)
    case atStart => exact ⟨0, 0, by omega, rfl, rfl, rfl⟩
    case round =>
      obtain ⟨k, nq, hk, rfl, ht, rfl⟩ := hrel
      by_cases hlt : k < l.length
      · obtain ⟨x, hx⟩ : ∃ x, l[k]? = some x := ⟨_, List.getElem?_eq_getElem hlt⟩
        obtain ⟨y, hy⟩ : ∃ y, m[k]? = some y := ⟨_, List.getElem?_eq_getElem (by omega)⟩
        obtain ⟨ad, rfl, a0⟩ := ra k (.int .u8 x) (by unfold byv; rw [List.getElem?_map, hx]; rfl)
        obtain ⟨bd, rfl, b0⟩ := rb k (.int .u8 y) (by unfold byv; rw [List.getElem?_map, hy]; rfl)
        have g0 : (0 : Int) ≤ k := by omega
        have g1 : (k : Int) < l.length := by omega
        have g2 : (k : Int) < m.length := by omega
        have HT := Lib.hid ht
        have HX := Lib.hid hx
        have HY := Lib.hid hy
        clear ht hx hy ra rb
        by_cases hxy : x = y
        · have hd : (x == y) = true := by simp [hxy]
          have hd2 : (x != y) = false := by simp [hxy]
          have HXY := Lib.hid hxy
          clear hxy
          go_wp2
          go_quiet (fail)
          go_wp2
          go_roundw
          case rel => exact ⟨k + 1, _, by omega, by go_num, by rw [take_snoc_pk HX.out, take_snoc_pk HY.out, HT.out, HXY.out], rfl⟩
          case measure => simp [intOf]; omega
        · have hd : (x == y) = false := by simp [hxy]
          have hd2 : (x != y) = true := by simp [hxy]
          have hne : decide (l = m) = false := decide_eq_false fun e => hxy (by have h1 := HX.out; rw [e, HY.out] at h1; injection h1 with h1; exact h1.symm)
          obtain rfl : r = false := HR.out.trans hne
          clear hxy hne
          go_wp2
          go_quiet (fail)
          go_wp2
          go_ret
          exact ⟨rfl, _, World.drewN_drewN _ _ _⟩
      · obtain rfl : k = l.length := by omega
        have hlm : l = m := by rw [List.take_length, List.take_of_length_le (by omega)] at ht; exact ht
        obtain rfl : r = true := HR.out.trans (decide_eq_true hlm)
        clear ht hlm ra rb
        go_wp2
        go_ret
        exact ⟨rfl, _, rfl⟩
  · have hne : decide (l = m) = false := decide_eq_false fun e => hlen (by rw [e])
    obtain rfl : r = false := HR.out.trans hne
    clear hne ra rb
    go_enter Try.func15, Try.ntmps15
    go_wp2
    go_ret
    exact ⟨rfl, 0, rfl⟩
set_option maxHeartbeats 3200000 in
theorem cloneb_ok (A : Option Addr) (c : Nat) (xs : List Int) (w : World) (hr : Rd w A (byv xs)) (hx : xs.length ≤ 10000000) :
    Calls Try.prog 40 #[.slice A xs.length c] w fun e w' => ∃ r, e = .returned r ∧ w'.ownsRow w.heap.size 5 1 r xs.length (byv xs) ∧ Below w.heap.size w w' := by
  obtain ⟨i0, hi0, hz0, hz1, hz2⟩ := info_parts (show (Try.prog.info? 5).map (fun i => (i.zero, i.size, i.bytes)) = some (some (.int .u8 0), 1, 1) by kernel_rfl)
  have HR := Lib.hid (hr.alloc (.cells #[] 5))
  have HN := Lib.hid (Blk.new w 5 #[])
  rcases A with _ | ad
  · have hne := fun (W : World) => Lib.run_eql_slice_nil (P := Try.prog) W 47 5 none 0 c 0 0 Try.underlying47
    have h0 : xs = [] := by
      rcases xs with _ | ⟨x, xs⟩
      · rfl
      · obtain ⟨ad, e, _⟩ := hr 0 (.int .u8 x) rfl
        cases e
    subst h0
    clear hr
    go_enter Try.func40, Try.ntmps40
    go_wp2
    go_ret
    exact ⟨_, rfl, World.ownsRow_nil _ _ _ _, Below.refl _ _⟩
  · have hne := fun (W : World) => Lib.run_eql_slice_nil (P := Try.prog) W 47 5 (some ad) xs.length c 0 0 Try.underlying47
    clear hr
    go_enter Try.func40, Try.ntmps40
    go_wp2_with (at_builtin; refine wpList_append_any _ rfl _ _ 47 rfl w.heap.size 5 i0 _ 1 1 Try.underlying47 hi0 hz0 hz1 hz2 rfl (by decide) (.slice (some ⟨w.heap.size, 0, none⟩) 0 0) 0 [] rfl (ownsRow_empty _ _ _ _ _ 0 _ (Nat.le_refl _) HN.out (by unfold maxLen; omega) rfl) (some ad) xs.length c (byv xs) rfl (by simp [byv_len]) HR.out (byv_one xs) (by unfold maxLen; omega) (by omega) (by simp) ?_; intro v1 w1 hown1 hg1 hat1; rw [List.nil_append, Nat.zero_add] at hown1)
    go_ret
    exact ⟨v1, rfl, hown1, ((Below.refl w.heap.size w).alloc (Nat.le_refl _) (.cells #[] 5)).grown hg1 (by simp) fun b hb => by injection hb with hb; exact Nat.le_of_eq hb⟩
end Go.Proofs.Ytcpngnnnggpfpaa
