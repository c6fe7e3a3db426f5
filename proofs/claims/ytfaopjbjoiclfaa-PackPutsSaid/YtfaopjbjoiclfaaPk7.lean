/- The walk of PackPuts. No further condition. -/
import Derived.Test.YtfaopjbjoiclfaaPk6
namespace Go.Proofs.Ytfaopjbjoiclfaa
open Go.RowKit

/-- A writer and a row beside it. -/
structure PP (W0 wr : World) (B g : Nat) (v : Value) (P : List Int) (u : Value) (Q : List Int) : Prop where
  k : WrTo W0 wr B g (.slice none 0 0) v P
  own : wr.ownsRow W0.heap.size 5 1 u Q.length (byv Q)
  sep : ∀ b, u.ownBlock = some b → v.ownBlock ≠ some b
  g0 : g < W0.heap.size
theorem PP.later {W0 wr wr' : World} {B g : Nat} {v u : Value} {P Q : List Int} (h : PP W0 wr B g v P u Q) (hb : Below wr.heap.size wr wr') : PP W0 wr' B g v P u Q :=
  ⟨h.k.later_ hb, ownsRow_later h.own hb, h.sep, h.g0⟩
theorem PP.put {W0 wr wr' : World} {B g : Nat} {v v2 u : Value} {P P2 Q : List Int} (h : PP W0 wr B g v P u Q) (k2 : WrTo wr wr' B g v v2 P2) : PP W0 wr' B g v2 P2 u Q := by
  refine ⟨h.k.trans k2, ownsRow_fr h.own k2.fr fun b hb hs => ?_, fun b hb e => ?_, h.g0⟩
  · rcases hs with rfl | hs
    · have := (h.own.lt b hb).1
      have := h.g0
      omega
    · exact h.sep b hb hs
  · rcases k2.row with r | ⟨c, r, hc⟩
    · rw [r] at e
      exact h.sep b hb e
    · rw [r] at e
      injection e with e
      have := (h.own.lt b hb).2
      omega
theorem PP.app {W0 wr w2 : World} {B g : Nat} {v u u2 : Value} {P Q R : List Int} (h : PP W0 wr B g v P u Q) (hg : wr.grownBy w2 u.ownBlock) (own2 : w2.ownsRow W0.heap.size 5 1 u2 (Q.length + R.length) (byv Q ++ byv R))
    (hat : u2.ownBlock = u.ownBlock ∨ u2.ownBlock = some wr.heap.size) : PP W0 w2 B g v P u2 (Q ++ R) := by
  have hne := own_blk_ne h.own h.k.wr.own (by decide)
  refine ⟨⟨⟨h.k.wr.own.grown hg (fun e => hne e.symm), ownsRow_fr h.k.wr.row (Fr.of_grown hg) fun b hb e => h.sep b e hb⟩, h.k.fr.grown hg fun b hb => .inr (h.own.lt b hb).1, h.k.row⟩, by rw [List.length_append, byv_app]; exact own2, fun b hb e => ?_, h.g0⟩
  rcases hat with r | r
  · rw [r] at hb
    exact h.sep b hb e
  · rw [r] at hb
    injection hb with hb
    have := (h.k.wr.row.lt b e).2
    omega
/-- The bytes of an item. -/
def bytesOf (s : It) : List Int := if s.is then s.raw else if 1 ≤ s.size ∧ s.size ≤ 8 then le s.size.toNat s.n else []
def exps (l : List It) : List Int := l.flatMap bytesOf
theorem exps_snoc {l : List It} {k : Nat} {s : It} (h : l[k]? = some s) : exps (l.take (k + 1)) = exps (l.take k) ++ bytesOf s := by
  rw [take_snoc_pk h]
  simp [exps]
set_option maxRecDepth 100000 in
set_option maxHeartbeats 6400000 in
theorem puts_walk (A : Option Addr) (c : Nat) (l : List It) (least : Int) (w : World) (ra : ArgP w A l) (hm : l.length ≤ 9223372036854775807) :
    Calls Try.prog 4 #[.slice A l.length c, .int .i64 least] w fun e w' => e = .returned (.bool true) ∧ Below w.heap.size w w' := by
  have ha := awake_ok w
  by_cases hlong : 40 < l.length
  · go_enter Try.func4, Try.ntmps4
    go_wp2_with (go_at_call 7; refine ha.mono ?_; rintro e w1 ⟨rfl, hb1⟩)
    go_ret
    exact ⟨rfl, hb1⟩
  by_cases hbig : 2000 < least
  · have hfew : l.length ≤ 40 := by omega
    go_enter Try.func4, Try.ntmps4
    go_wp2_with (go_at_call 7; refine ha.mono ?_; rintro e w1 ⟨rfl, hb1⟩)
    go_ret
    exact ⟨rfl, hb1⟩
  have hfew : l.length ≤ 40 := by omega
  have hleast : least ≤ 2000 := by omega
  obtain ⟨i0, hi0, hz0, hz1, hz2⟩ := info_parts (show (Try.prog.info? 5).map (fun i => (i.zero, i.size, i.bytes)) = some (some (.int .u8 0), 1, 1) by kernel_rfl)
  have HAW := Lib.hid ha
  have HRA := Lib.hid ra
  clear hlong ha ra hm hbig
  go_enter Try.func4, Try.ntmps4
  go_wp2_with (go_at_call 7; refine HAW.out.mono ?_; rintro e w1 ⟨rfl, hb1⟩; have HW0 := Lib.hid (Wr.new w1 w.heap.size w1.heap.size rfl); have HB0 := Lib.hid (hb1.alloc hb1.size (.cells #[.slice none 0 0] 26)); have hs1 := hb1.size; clear hb1)
  obtain ⟨W0, hW0⟩ : ∃ W0, W0 = w1.alloc (.cells #[.slice none 0 0] 26) := ⟨_, rfl⟩
  have hg0 : w1.heap.size < W0.heap.size := by rw [hW0]; simp
  rw [← hW0] at HW0 HB0 ⊢
  have HP0 : Hid (PP W0 W0 w.heap.size w1.heap.size (.slice none 0 0) [] (.slice none 0 0) []) := Lib.hid ⟨WrTo.refl HW0.out, World.ownsRow_nil _ _ _ _, (fun b hb => by cases hb), hg0⟩
  clear hW0
  go_loopw [6, 21] (fun u i wr => ∃ (k : Nat) (v : Value), k ≤ l.length ∧ i = .int .i64 k ∧ PP W0 wr w.heap.size w1.heap.size v (exps (l.take k)) u (exps (l.take k)) ∧ (exps (l.take k)).length ≤ 40 * k) (fun _ i _ => l.length - (intOf i).toNat)
  case atStart => exact ⟨0, _, by omega, rfl, HP0.out, by simp [exps]⟩
  case round =>
    obtain ⟨k, v, hk, rfl, hP, hlen⟩ := hrel
    have HP := Lib.hid hP
    have HB := Lib.hid (HB0.out.trans (hP.k.below HW0.out hs1))
    obtain ⟨Au, cu, rfl, -, -⟩ := own_form hP.own
    clear hP
    by_cases hlt : k < l.length
    · obtain ⟨s, hs⟩ : ∃ s, l[k]? = some s := ⟨_, List.getElem?_eq_getElem hlt⟩
      obtain ⟨x, rfl, ⟨c0, c1, c2, c3⟩, ok⟩ := HRA.out.below HB.out k s hs
      have g1 : (k : Int) < l.length := by omega
      by_cases hraw : 40 < s.raw.length
      · go_wp2
        go_ret
        exact ⟨rfl, HB.out.alloc HB.out.size _⟩
      have hraw2 : s.raw.length ≤ 40 := by omega
      have HS := Lib.hid (exps_snoc hs)
      have HLEN := Lib.hid hlen
      generalize exps (l.take k) = P at *
      have hPl : P.length ≤ 1600 := by omega
      have hP1 := HP.out.later ((Below.refl wr.heap.size wr).alloc (Nat.le_refl _) (.cells #[.int .i8 s.size, .int .u64 s.n, .slice s.a s.raw.length s.c, .bool s.is] 37))
      have HP1 := Lib.hid hP1
      have HB1 := Lib.hid (HB.out.alloc HB.out.size (.cells #[.int .i8 s.size, .int .u64 s.n, .slice s.a s.raw.length s.c, .bool s.is] 37))
      have hbk : ∀ W (S : Nat → Prop) (f : Fr S (wr.alloc (.cells #[.int .i8 s.size, .int .u64 s.n, .slice s.a s.raw.length s.c, .bool s.is] 37)) W), (¬ S wr.heap.size) → Blk W wr.heap.size 37 #[.int .i8 s.size, .int .u64 s.n, .slice s.a s.raw.length s.c, .bool s.is] := fun W S f => (Blk.new wr 37 #[.int .i8 s.size, .int .u64 s.n, .slice s.a s.raw.length s.c, .bool s.is]).fr f
      have hbk2 : ∀ W v2 P2, WrTo (wr.alloc (.cells #[.int .i8 s.size, .int .u64 s.n, .slice s.a s.raw.length s.c, .bool s.is] 37)) W w.heap.size w1.heap.size v v2 P2 → Blk W wr.heap.size 37 #[.int .i8 s.size, .int .u64 s.n, .slice s.a s.raw.length s.c, .bool s.is] := fun W v2 P2 hk => hbk W _ hk.fr (by
        rintro (h | h)
        · have := HP.out.k.wr.own.lt; omega
        · have := (HP.out.k.wr.row.lt _ h).2; omega)
      have HBK := Lib.hid hbk2
      have HOK := Lib.hid ok
      have hrow : ∀ W, Below w.heap.size w W → Rd W s.a (byv s.raw) := fun W hb => by
        obtain ⟨x', _, _, ok'⟩ := HRA.out.below hb k s hs
        exact ok'.row
      have HROW := Lib.hid hrow
      clear hrow
      clear hs hlen hbk hbk2 hP1 ok
      rcases his : s.is with _ | _
      · rw [his] at HP1 HB1 HBK c3
        by_cases hsm : 1 ≤ s.size ∧ s.size ≤ 8
        · obtain ⟨m, hsz⟩ : ∃ m : Nat, s.size = m := ⟨s.size.toNat, by omega⟩
          have hm1 : 1 ≤ m := by omega
          have hm8 : m ≤ 8 := by omega
          have HS2 : Hid (bytesOf s = le m s.n) := Lib.hid (by unfold bytesOf; rw [his, if_neg (by decide), if_pos hsm, hsz]; rfl)
          rw [hsz] at HP1 HB1 HBK c0
          clear his hsm hsz
          have hn := HOK.out.n
          have h1' : (1 : Int) ≤ m := by omega
          have h8' : (m : Int) ≤ 8 := by omega
          go_wp2_with (go_at_call 8; refine (put_some w.heap.size w1.heap.size v P m s.n _ HP1.out.k.wr hm1 hm8 hn (by omega) HB1.out.size).mono ?_; rintro e w2 ⟨rfl, v2, k2⟩; have HP2 := Lib.hid (HP1.out.put k2); have HBL := Lib.hid (HBK.out _ _ _ k2); have d0 := HBL.out.cell 0; have d1 := HBL.out.cell 1; clear k2)
          go_loopw [6, 9, 56] (fun u q i wr => ∃ (j : Nat), j ≤ m ∧ i = .int .i8 j ∧ q = .int .u64 ((s.n / 256 ^ j : Nat) : Int) ∧ PP W0 wr w.heap.size w1.heap.size v2 (P ++ le m s.n) u (P ++ le j s.n)) (fun _ _ i _ => m - (intOf i).toNat)
          case atStart => exact ⟨0, by omega, rfl, by simp, by simpa [le] using HP2.out⟩
          case round =>
            obtain ⟨j, hj, rfl, rfl, hQ⟩ := hrel
            have HQ := Lib.hid hQ
            clear hQ
            by_cases hjm : j < m
            · have hdd : s.n / 256 ^ j / 256 = s.n / 256 ^ (j + 1) := by rw [Nat.div_div_eq_div_mul, Nat.pow_succ]
              have HDD := Lib.hid hdd
              have hby : ((s.n / 256 ^ j : Nat) : Int) % 256 = byteAt s.n j := rfl
              have HBY := Lib.hid hby
              clear hdd hby
              generalize hq : s.n / 256 ^ j = q at *
              have hq2 : q < 18446744073709551616 := by have := Nat.div_le_self s.n (256 ^ j); omega
              have hls : (P ++ le j s.n).length = P.length + j := by rw [List.length_append, le_len]
              clear hq
              go_wp2_with (at_builtin; refine wpList_append_any _ rfl _ _ 24 rfl W0.heap.size 5 i0 (.int .u8 0) 1 1 Try.underlying24 hi0 hz0 hz1 hz2 rfl (by decide) _ (P ++ le j s.n).length (byv (P ++ le j s.n)) rfl (HQ.out.own.alloc _) (some ⟨wr.heap.size, 0, none⟩) 1 1 [.int .u8 ((q : Int) % 256)] rfl rfl (Rd.one _ _ _ rfl) (by intro u hu; simp at hu; subst hu; rfl) (by rw [hls]; unfold maxLen; omega) (by rw [hls]; omega) (by have := HQ.out.k.fr.size; simp; omega) ?_; intro v3 w3 hown3 hg3 hat3; have HQ3 := Lib.hid ((HQ.out.later ((Below.refl _ _).alloc (Nat.le_refl _) _)).app (R := [(q : Int) % 256]) hg3 hown3 hat3))
              go_roundw
              case rel => exact ⟨j + 1, by omega, by go_num, by rw [← HDD.out]; rfl, by rw [le_snoc, ← List.append_assoc, ← HBY.out]; exact HQ3.out⟩
              case measure => simp [intOf]; omega
            · obtain rfl : j = m := by omega
              go_wp2
              go_roundw
              case rel =>
                refine ⟨k + 1, v2, by omega, by go_num, by rw [HS.out, HS2.out]; exact HQ.out, ?_⟩
                have := HLEN.out
                rw [HS.out, HS2.out, List.length_append, le_len]
                omega
              case measure => simp [intOf]; omega
        · have HS2 : Hid (bytesOf s = []) := Lib.hid (by unfold bytesOf; rw [his, if_neg (by decide), if_neg hsm])
          have HWR : Hid (wrap64 s.size = s.size) := Lib.hid (by have h1 := HOK.out.lo; have h2 := HOK.out.hi; unfold wrap64; omega)
          clear his
          rcases (show s.size < 1 ∨ (¬ s.size < 1 ∧ 8 < s.size) by omega) with h1 | ⟨h0, h1⟩
          all_goals
            clear hsm
            go_wp2_with (go_at_call 8; rw [HWR.out]; refine (put_none w1.heap.size s.n s.size _ (by omega)).mono ?_; rintro e w2 ⟨rfl, rfl⟩)
            go_roundw
            case rel =>
              refine ⟨k + 1, v, by omega, by go_num, by rw [HS.out, HS2.out, List.append_nil]; exact HP1.out, ?_⟩
              have := HLEN.out
              rw [HS.out, HS2.out, List.append_nil]
              omega
            case measure => simp [intOf]; omega
      · have HS2 : Hid (bytesOf s = s.raw) := Lib.hid (by unfold bytesOf; rw [his]; rfl)
        rw [his] at HP1 HB1 HBK c3
        clear his
        go_wp2_with (first
          | (go_at_call 11; refine (wraw_ok w.heap.size w1.heap.size v P s.raw s.a s.c _ HP1.out.k.wr (HROW.out _ HB1.out) (by omega) (by omega) HB1.out.size).mono ?_; rintro e w2 ⟨rfl, v2, k2⟩; have HP2 := Lib.hid (HP1.out.put k2); have HB2 := Lib.hid (HB0.out.trans (HP2.out.k.below HW0.out hs1)); have d2 := (HBK.out _ _ _ k2).cell 2; clear k2)
          | (at_builtin; refine wpList_append_any _ rfl _ _ 24 rfl W0.heap.size 5 i0 (.int .u8 0) 1 1 Try.underlying24 hi0 hz0 hz1 hz2 rfl (by decide) _ P.length (byv P) rfl HP2.out.own s.a s.raw.length s.c (byv s.raw) rfl (by simp [byv_len]) (HROW.out _ HB2.out) (byv_one _) (by unfold maxLen; omega) (by omega) HP2.out.k.fr.size ?_; intro v3 w3 hown3 hg3 hat3; have HP3 := Lib.hid (HP2.out.app (R := s.raw) hg3 hown3 hat3)))
        go_roundw
        case rel =>
          refine ⟨k + 1, v2, by omega, by go_num, by rw [HS.out, HS2.out]; exact HP3.out, ?_⟩
          have := HLEN.out
          rw [HS.out, HS2.out, List.length_append]
          omega
        case measure => simp [intOf]; omega
    · obtain rfl : k = l.length := by omega
      rw [List.take_length] at HP hlen ⊢
      generalize exps l = P at *
      have hPl : P.length ≤ 1600 := by omega
      obtain ⟨m, hm⟩ : ∃ m, m = least.toNat - P.length := ⟨_, rfl⟩
      have HM := Lib.hid hm
      clear hm hlen hlt
      go_wp2
      go_loopw [6] (fun u wr => ∃ j : Nat, j ≤ m ∧ PP W0 wr w.heap.size w1.heap.size v P u (P ++ List.replicate j 0) ∧ ∃ A' c', u = .slice A' (P.length + j) c') (fun u _ => least.toNat - (match u with | .slice _ n _ => n | _ => 0))
      case atStart => exact ⟨0, by omega, by simpa using HP.out, _, _, rfl⟩
      case round =>
        obtain ⟨j, hj, hQ, A', c', rfl⟩ := hrel
        have HQ := Lib.hid hQ
        clear hQ
        have hm1 := HM.out
        by_cases hlt : P.length + j < least.toNat
        · have hlt2 : (P.length : Int) + j < least := by omega
          have hj2 : j + 1 ≤ m := by omega
          have hls : (P ++ List.replicate j (0 : Int)).length = P.length + j := by rw [List.length_append, List.length_replicate]
          have hPj : P.length + j ≤ 2000 := by omega
          clear hm1
          go_wp2_with (at_builtin; refine wpList_append_any _ rfl _ _ 24 rfl W0.heap.size 5 i0 (.int .u8 0) 1 1 Try.underlying24 hi0 hz0 hz1 hz2 rfl (by decide) _ (P ++ List.replicate j 0).length (byv (P ++ List.replicate j 0)) rfl (HQ.out.own.alloc _) (some ⟨wr.heap.size, 0, none⟩) 1 1 [.int .u8 0] rfl rfl (Rd.one _ _ _ rfl) (by intro u hu; simp at hu; subst hu; rfl) (by rw [hls]; unfold maxLen; omega) (by rw [hls]; omega) (by have := HQ.out.k.fr.size; simp; omega) ?_; intro v3 w3 hown3 hg3 hat3; have HQ3 := Lib.hid ((HQ.out.later ((Below.refl _ _).alloc (Nat.le_refl _) _)).app (R := [0]) hg3 hown3 hat3); obtain ⟨A3, c3, rfl, -, -⟩ := own_form hown3)
          go_roundw
          case rel =>
            have h3 := HQ3.out
            rw [hls] at h3
            exact ⟨j + 1, hj2, by rw [List.replicate_succ', ← List.append_assoc]; exact h3, A3, c3, rfl⟩
          case measure => simp; omega
        · obtain rfl : j = m := by omega
          obtain ⟨Q, hQQ⟩ : ∃ Q, Q = pad P least.toNat := ⟨_, rfl⟩
          have hQ1 : P ++ List.replicate j 0 = Q := by rw [hQQ, pad, ← hm1]
          have hQl : P.length + j = Q.length := by rw [← hQ1, List.length_append, List.length_replicate]
          have hge : ¬ ((Q.length : Int) < least) := by omega
          have hfin : Q.length ≤ 10000 := by omega
          rw [hQ1] at HQ
          have hby := fun W (hW : Wr W w.heap.size w1.heap.size v P) => bytes_ok w.heap.size w1.heap.size v P least W hW (by omega) (by omega)
          rw [← hQQ] at hby
          have HBY := Lib.hid hby
          rw [hQl]
          rw [hQl] at HQ
          clear hby hm1 hQ1 hQQ hQl
          have hdd : decide (Q = Q) = true := by simp
          go_wp2_with (first
            | (go_at_call 9; refine (HBY.out _ HQ.out.k.wr).mono ?_; rintro e w4 ⟨r4, rfl, hown4, hb4⟩; obtain ⟨A4, c4, rfl, -, hrd4⟩ := own_form hown4; have HQ4 := Lib.hid (HQ.out.later hb4); have HR4 := Lib.hid hrd4; clear HQ hown4 hrd4 hb4)
            | (go_at_call 10; refine (equalb_ok A4 A' c4 c' Q Q _ HR4.out (Rd.of_own HQ4.out.own) (by omega)).mono ?_; rintro e w5 ⟨rfl, n5, rfl⟩; have HQ5 := Lib.hid (HQ4.out.later (below_drewN (Below.refl _ _) n5)); clear HQ4 HR4)
            | (go_at_call 9; refine (HBY.out _ HQ5.out.k.wr).mono ?_; rintro e w6 ⟨r6, rfl, hown6, hb6⟩; obtain ⟨A6, c6, rfl, -, hrd6⟩ := own_form hown6; have HQ6 := Lib.hid (HQ5.out.later hb6); have HR6 := Lib.hid hrd6; clear HQ5 hown6 hrd6 hb6)
            | (go_at_call 10; refine (equalb_ok A6 A' c6 c' Q Q _ HR6.out (Rd.of_own HQ6.out.own) (by omega)).mono ?_; rintro e w7 ⟨rfl, n7, rfl⟩; have HQ7 := Lib.hid (HQ6.out.later (below_drewN (Below.refl _ _) n7)); clear HQ6 HR6))
          go_ret
          exact ⟨rfl, HB0.out.trans (HQ7.out.k.below HW0.out hs1)⟩
theorem packPuts_true (A : Option Addr) (len c : Nat) (least : Int) (w : World)
    (h : len ≤ maxLen ∧ ∀ i, i < len → ∃ x, A = some x ∧ ∃ (c0 : Int) (c1 : Int) (a2 : Option Addr) (l2 k2 : Nat) (z2 : List Int) (c3 : Bool), w.cell? (x.add (i * 4 + 0)) = some (.int .i8 c0) ∧ w.cell? (x.add (i * 4 + 1)) = some (.int .u64 c1) ∧ w.cell? (x.add (i * 4 + 2)) = some (.slice a2 l2 k2) ∧ w.cell? (x.add (i * 4 + 3)) = some (.bool c3) ∧
      (Lit.int .i8 c0).wf = true ∧ (Lit.int .u64 c1).wf = true ∧ IsB w a2 l2 k2 z2) (_hl : (Lit.int .i64 least).wf = true) :
    Calls Try.prog 4 #[.slice A len c, .int .i64 least] w fun e w' => e = .returned (.bool true) ∧ Below w.heap.size w w' := by
  obtain ⟨l, rfl, ra⟩ := argP_of h
  exact puts_walk A c l least w ra (by have := h.1; unfold maxLen at this; omega)
end Go.Proofs.Ytfaopjbjoiclfaa
