/- Notes as values, and the walk of the law's Make. No further condition. -/
import Derived.Test.YtbokddacobohnaaSu3
namespace Go.Proofs.Ytbokddacobohnaa
open Go.RowKit
attribute [local go_sem ↓] Go.wp_at_zero Go.wp_at_succ

abbrev En := Nat × Nat
def env (e : En) : List Value := [.int .i64 e.1, .int .i64 e.2]
def ens (l : List En) : List Value := l.flatMap env
theorem env_len (e : En) : (env e).length = 2 := rfl
theorem ens_len (l : List En) : (ens l).length = l.length * 2 := flat_len env env_len l
theorem ens_snoc (l : List En) (e : En) : ens (l ++ [e]) = ens l ++ env e := by simp [ens]
theorem env_one (e : En) : ∀ u ∈ env e, u.oneCell' = true := by
  intro u hu
  simp [env] at hu
  rcases hu with rfl | rfl <;> rfl
theorem ens_at {w : World} {A : Option Addr} {l : List En} (h : Rd w A (ens l)) {i : Nat} {e : En} (hi : l[i]? = some e) :
    ∃ x, A = some x ∧ w.cell? (x.add (i * 2)) = some (.int .i64 e.1) ∧ w.cell? ⟨(x.add (i * 2)).block, (x.add (i * 2)).off + 1, none⟩ = some (.int .i64 e.2) := by
  obtain ⟨ad, e1, a0⟩ := h (i * 2) _ ((flat_get env env_len l i 0 e (by decide) hi).trans rfl)
  obtain ⟨_, e2, a1⟩ := h (i * 2 + 1) _ ((flat_get env env_len l i 1 e (by decide) hi).trans rfl)
  rw [e1] at e2
  injection e2 with e2
  subst e2
  rw [add_field _ _ _ (by decide)] at a1
  exact ⟨_, e1, a0, a1⟩
def slv (e : En) : List Value := [.int .u8 e.1, .int .u32 e.2]
theorem slv_len (e : En) : (slv e).length = 2 := rfl
def sls (l : List En) : List Value := l.flatMap slv
theorem sls_at {w : World} {A : Option Addr} {l : List En} (h : Rd w A (sls l)) {i : Nat} {e : En} (hi : l[i]? = some e) :
    ∃ x, A = some x ∧ w.cell? (x.add (i * 2)) = some (.int .u8 e.1) ∧ w.cell? ⟨(x.add (i * 2)).block, (x.add (i * 2)).off + 1, none⟩ = some (.int .u32 e.2) := by
  obtain ⟨ad, e1, a0⟩ := h (i * 2) _ ((flat_get slv slv_len l i 0 e (by decide) hi).trans rfl)
  obtain ⟨_, e2, a1⟩ := h (i * 2 + 1) _ ((flat_get slv slv_len l i 1 e (by decide) hi).trans rfl)
  rw [e1] at e2
  injection e2 with e2
  subst e2
  rw [add_field _ _ _ (by decide)] at a1
  exact ⟨_, e1, a0, a1⟩

/-- A note that is being made: its block X, its row; the result's own block R. -/
structure Nb (w0 w : World) (R X : Nat) (seq next : Int) (v : Value) (xs : List En) : Prop where
  res : Blk w R 28 #[.int .u64 0, .int .i64 0, .slice none 0 0]
  nt : Blk w X 28 #[.int .u64 seq, .int .i64 next, v]
  row : w.ownsRow w0.heap.size 48 2 v xs.length (ens xs)
  bel : Below w0.heap.size w0 w
  xr : R ≠ X ∧ w0.heap.size ≤ X
section
variable {w0 w w' W : World} {R X : Nat} {seq next : Int} {v v2 : Value} {xs : List En}
theorem Nb.later (k : Nb w0 w R X seq next v xs) (h : Below w.heap.size w w') : Nb w0 w' R X seq next v xs :=
  ⟨k.res.later h, k.nt.later h, ownsRow_later k.row h, k.bel.trans (h.mono k.bel.size), k.xr⟩
theorem Nb.open_ (k : Nb w0 w R X seq next v xs) (h : Below w.heap.size w W) (hg : W.grownBy w' v.ownBlock) : w'.cell? ⟨X, 2, none⟩ = some v ∧ w'.frozen? ⟨X, 2, none⟩ = false := by
  have k' := k.later h
  have b2 := k'.nt.grown hg (fun e => own_blk_ne k'.row k'.nt (by decide) e.symm)
  exact ⟨b2.cells3.2.2, b2.frozen 2⟩
theorem Nb.push (k : Nb w0 w R X seq next v xs) (h : Below w.heap.size w W) (hg : W.grownBy w' v.ownBlock) (e : En) (ho : w'.ownsRow w0.heap.size 48 2 v2 (xs.length + 1) (ens xs ++ env e)) :
    Nb w0 (w'.setCell ⟨X, 2, none⟩ v2) R X seq next v2 (xs ++ [e]) := by
  have k' := k.later h
  have n1 : v.ownBlock ≠ some R := own_blk_ne k'.row k'.res (by decide)
  have n2 : v.ownBlock ≠ some X := own_blk_ne k'.row k'.nt (by decide)
  have b1 := k'.res.grown hg (fun e => n1 e.symm)
  have b2 := k'.nt.grown hg (fun e => n2 e.symm)
  have f2 : Fr (· = X) w' (w'.setCell ⟨X, 2, none⟩ v2) := (Fr.refl (· = X) w').setCell (p := ⟨X, 2, none⟩) (.inl rfl) v2
  rw [← ens_snoc] at ho
  refine ⟨b1.far k.xr.1 v2, b2.set_ 2 v2, ?_, ?_, k.xr⟩
  · rw [List.length_append]
    exact ownsRow_fr ho f2 fun b hb e => own_blk_ne ho b2 (by decide) (by rw [hb, e])
  · exact (k'.bel.grown hg k'.bel.size fun b hb => (k'.row.lt b hb).1).setCell (p := ⟨X, 2, none⟩) k.xr.2 v2
theorem set3 (x y z a b c : Value) : ((#[x, y, z].setIfInBounds 0 a).setIfInBounds 1 b).setIfInBounds 2 c = #[a, b, c] := rfl
theorem Nb.done (k : Nb w0 w R X seq next v xs) (hR : w0.heap.size ≤ R) :
    (((w.setCell ⟨R, 0, none⟩ (.int .u64 seq)).setCell ⟨R, 1, none⟩ (.int .i64 next)).setCell ⟨R, 2, none⟩ v).heap[R]? = some (.cells #[.int .u64 seq, .int .i64 next, v] 28 (0, 0)) ∧
    (((w.setCell ⟨R, 0, none⟩ (.int .u64 seq)).setCell ⟨R, 1, none⟩ (.int .i64 next)).setCell ⟨R, 2, none⟩ v).ownsRow w0.heap.size 48 2 v xs.length (ens xs) ∧
    Below w0.heap.size w0 (((w.setCell ⟨R, 0, none⟩ (.int .u64 seq)).setCell ⟨R, 1, none⟩ (.int .i64 next)).setCell ⟨R, 2, none⟩ v) := by
  have hfr : Fr (fun b => b = R) w (((w.setCell ⟨R, 0, none⟩ (.int .u64 seq)).setCell ⟨R, 1, none⟩ (.int .i64 next)).setCell ⟨R, 2, none⟩ v) :=
    Fr.setCell (Fr.setCell (Fr.setCell (Fr.refl (fun b => b = R) w) (p := ⟨R, 0, none⟩) (.inl rfl) _) (p := ⟨R, 1, none⟩) (.inl rfl) _) (p := ⟨R, 2, none⟩) (.inl rfl) _
  refine ⟨?_, ownsRow_fr k.row hfr fun b hb e => own_blk_ne k.row k.res (by decide) (by rw [hb, e]), k.bel.trans (hfr.toBelow k.bel.size fun b hb e => by omega)⟩
  have := ((k.res.set_ 0 (.int .u64 seq)).set_ 1 (.int .i64 next)).set_ 2 v
  rw [set3] at this
  exact this
end
/-- What Make makes of a slot. -/
def mk1 (e : En) : En := (e.1 % 4, if e.1 % 4 = 0 then 0 else e.2)
def SlOk (l : List En) : Prop := ∀ e ∈ l, e.1 < 256 ∧ e.2 < 4294967296
set_option maxRecDepth 100000 in
set_option maxHeartbeats 6400000 in
theorem make_ok (A : Option Addr) (c : Nat) (l : List En) (seq next : Int) (w : World) (ra : Rd w A (sls l)) (hl : l.length ≤ 1000) (hwf : SlOk l) (hn : 0 ≤ next ∧ next < 65536) :
    Calls Try.prog 8 #[.int .u64 seq, .int .u16 next, .slice A l.length c] w fun e w' => ∃ v, e = .returned (.agg #[.int .u64 seq, .int .i64 (next - 1), v]) ∧ w'.ownsRow w.heap.size 48 2 v l.length (ens (l.map mk1)) ∧ Below w.heap.size w w' := by
  obtain ⟨i0, hi0, hz0, hz1, hz2⟩ := info_parts (show (Try.prog.info? 48).map (fun i => (i.zero, i.size, i.bytes)) = some (some (.agg #[.int .i64 0, .int .i64 0]), 2, 16) by kernel_rfl)
  have HRA := Lib.hid ra
  have HWF := Lib.hid hwf
  obtain ⟨n0, n1⟩ := hn
  clear ra hwf
  have hnb : Nb w ((w.alloc (.cells #[.int .u64 0, .int .i64 0, .slice none 0 0] 28)).alloc (.cells #[.int .u64 seq, .int .i64 (next - 1), .slice none 0 0] 28)) w.heap.size (w.heap.size + 1) seq (next - 1) (.slice none 0 0) [] :=
    ⟨(Blk.new w 28 _).alloc _, Blk.new_ _ _ _ (by simp), World.ownsRow_nil _ _ _ _, ((Below.refl _ _).alloc (Nat.le_refl _) _).alloc (by simp) _, by omega, by omega⟩
  have HNB := Lib.hid hnb
  clear hnb
  go_enter Try.func8, Try.ntmps8
  go_wp2
  go_loopw [9, 10, 18] (fun _ _ i wr => ∃ (k : Nat) (v : Value), k ≤ l.length ∧ i = .int .i64 k ∧ Nb w wr w.heap.size (w.heap.size + 1) seq (next - 1) v ((l.take k).map mk1)) (fun _ _ i _ => l.length - (intOf i).toNat)
  case atStart => exact ⟨0, _, by omega, rfl, HNB.out⟩
  case round =>
    obtain ⟨k, v, hk, rfl, hN⟩ := hrel
    have hNl : ((l.take k).map mk1).length = k := by simp; omega
    by_cases hlt : k < l.length
    · obtain ⟨s, hs⟩ : ∃ s, l[k]? = some s := ⟨_, List.getElem?_eq_getElem hlt⟩
      obtain ⟨x, rfl, c0, c1⟩ := sls_at (HRA.out.later hN.bel) hs
      obtain ⟨s0, s1⟩ := HWF.out s (List.mem_of_getElem? hs)
      have g1 : (k : Int) < l.length := by omega
      obtain ⟨xs, hxs⟩ : ∃ xs, xs = (l.take k).map mk1 := ⟨_, rfl⟩
      have hxs2 : (l.take (k + 1)).map mk1 = xs ++ [mk1 s] := by rw [take_snoc_pk hs, List.map_append, hxs]; rfl
      rw [← hxs] at hN hNl
      have HS := Lib.hid hxs2
      have HN := Lib.hid hN
      obtain ⟨A1, c1', rfl, -, -⟩ := own_form hN.row
      have hsz := hN.bel.size
      have HNL := Lib.hid hNl
      have HRW : Hid (wr.ownsRow w.heap.size 48 2 (.slice A1 xs.length c1') k (ens xs)) := Lib.hid (by have := hN.row; rw [hNl] at this ⊢; exact this)
      rw [hNl] at HRW
      clear hN hs hxs hxs2 hNl
      have q2 : ∀ o1 o2, ((wr.alloc o1).alloc o2).cell? ⟨w.heap.size + 1, 2, none⟩ = some (.slice A1 k c1') := fun o1 o2 => by have := ((HN.out.nt.alloc o1).alloc o2).cells3.2.2; rw [HNL.out] at this; exact this
      by_cases h0 : s.1 % 4 = 0
      · have hmk : env (mk1 s) = [.int .i64 0, .int .i64 0] := by simp [env, mk1, h0]
        have HMK := Lib.hid hmk
        have hz : (s.1 : Int) % 4 = 0 := by omega
        clear hmk h0
        go_wp2_with (at_builtin; refine wpList_append_any _ rfl _ _ 26 rfl w.heap.size 48 i0 _ 2 16 Try.underlying26 hi0 hz0 hz1 hz2 rfl (by decide) _ k (ens xs) rfl (((HRW.out.alloc _).alloc _).alloc _) (some ⟨wr.heap.size + 1 + 1, 0, none⟩) 1 1 (env (mk1 s)) rfl rfl (by rw [HMK.out]; exact Rd.blk_all (Blk.new_ _ _ _ (by simp))) (env_one _) (by unfold maxLen; omega) (by omega) (by simp; omega) ?_; intro v2 w2 hown2 hg2 hat2; obtain ⟨A2, c2, rfl, -, -⟩ := own_form hown2; have HP := Lib.hid (HN.out.push ((((Below.refl wr.heap.size wr).alloc (Nat.le_refl _) _).alloc (by simp) _).alloc (by simp; omega) _) (by rw [HNL.out]; exact hg2) (mk1 s) (by rw [HNL.out]; exact hown2)); obtain ⟨p2, hf2⟩ := HN.out.open_ ((((Below.refl wr.heap.size wr).alloc (Nat.le_refl _) _).alloc (by simp) _).alloc (by simp; omega) _) (by rw [HNL.out]; exact hg2))
        go_roundw
        case rel => exact ⟨k + 1, _, by omega, by go_num, by rw [HS.out]; exact HP.out⟩
        case measure => simp [intOf]; omega
      · have hmk : env (mk1 s) = [.int .i64 ((s.1 : Int) % 4), .int .i64 s.2] := by simp [env, mk1, h0]
        have HMK := Lib.hid hmk
        have hz : ((s.1 : Int) % 4 == 0) = false := by simp; omega
        clear hmk h0
        go_wp2_with (at_builtin; refine wpList_append_any _ rfl _ _ 26 rfl w.heap.size 48 i0 _ 2 16 Try.underlying26 hi0 hz0 hz1 hz2 rfl (by decide) _ k (ens xs) rfl (((HRW.out.alloc _).alloc _).alloc _) (some ⟨wr.heap.size + 1 + 1, 0, none⟩) 1 1 (env (mk1 s)) rfl rfl (by rw [HMK.out]; exact Rd.blk_all (Blk.new_ _ _ _ (by simp))) (env_one _) (by unfold maxLen; omega) (by omega) (by simp; omega) ?_; intro v2 w2 hown2 hg2 hat2; obtain ⟨A2, c2, rfl, -, -⟩ := own_form hown2; have HP := Lib.hid (HN.out.push ((((Below.refl wr.heap.size wr).alloc (Nat.le_refl _) _).alloc (by simp) _).alloc (by simp; omega) _) (by rw [HNL.out]; exact hg2) (mk1 s) (by rw [HNL.out]; exact hown2)); obtain ⟨p2, hf2⟩ := HN.out.open_ ((((Below.refl wr.heap.size wr).alloc (Nat.le_refl _) _).alloc (by simp) _).alloc (by simp; omega) _) (by rw [HNL.out]; exact hg2))
        go_roundw
        case rel => exact ⟨k + 1, _, by omega, by go_num, by rw [HS.out]; exact HP.out⟩
        case measure => simp [intOf]; omega
    · obtain rfl : k = l.length := by omega
      rw [List.take_length] at hN
      have HN := Lib.hid hN
      obtain ⟨A1, c1', rfl, -, -⟩ := own_form hN.row
      obtain ⟨p0, p1, p2⟩ := hN.nt.cells3
      obtain ⟨r0, r1, r2⟩ := hN.res.cells3
      have f0 := hN.res.frozen 0
      have f1 := hN.res.frozen 1
      have f2 := hN.res.frozen 2
      have hD := hN.done (Nat.le_refl _)
      rw [List.length_map] at hD p2
      have HD := Lib.hid hD
      clear hN hD
      go_wp2
      (try simp only [Exit.inBlock, Exit.then])
      refine bodyPost_ret (results_cell_row rfl _ _ w.heap.size 28 #[.int .u64 seq, .int .i64 (next - 1), .slice A1 l.length c1'] (0, 0) _ rfl HD.out.1 Try.underlying28 rfl (by kernel_rfl)) rfl ?_
      exact ⟨_, rfl, HD.out.2.1, HD.out.2.2⟩
end Go.Proofs.Ytbokddacobohnaa
