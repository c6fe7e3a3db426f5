/- The walk of chapter 07's same (XSt2's text turned). No further condition. -/
import Derived.Test.YtgcmfcdbgimnjaaRec
namespace Go.Proofs.Ytgcmfcdbgimnjaa
open Go.RowKit

theorem con_ne {x y : Rc} (h : x.con ≠ y.con) : x.seq ≠ y.seq ∨ (x.seq = y.seq ∧ (x.kind ≠ y.kind ∨ (x.kind = y.kind ∧ (x.lba ≠ y.lba ∨ (x.lba = y.lba ∧ x.raw ≠ y.raw))))) := by
  unfold Rc.con at h
  by_cases h1 : x.seq = y.seq
  · right
    by_cases h2 : x.kind = y.kind
    · by_cases h3 : x.lba = y.lba
      · by_cases h4 : x.raw = y.raw
        · rw [h1, h2, h3, h4] at h
          exact absurd rfl h
        · exact ⟨h1, .inr ⟨h2, .inr ⟨h3, h4⟩⟩⟩
      · exact ⟨h1, .inr ⟨h2, .inl h3⟩⟩
    · exact ⟨h1, .inl h2⟩
  · exact .inl h1
set_option maxRecDepth 100000 in
set_option maxHeartbeats 6400000 in
theorem same_ok (A B : Option Addr) (c d : Nat) (l m : List Rc) (w : World) (ra : Rd w A (rcs l)) (rb : Rd w B (rcs m)) (da : Hd w l) (db : Hd w m) (hl : l.length ≤ 1000000) (hraw : ∀ r ∈ l, r.raw.length ≤ 10000000) :
    Calls Try.prog 19 #[.slice A l.length c, .slice B m.length d] w fun e w' => e = .returned (.bool (decide (l.map Rc.con = m.map Rc.con))) ∧ ∃ n, w' = w.drewN n := by
  obtain ⟨b, hb⟩ : ∃ b, b = decide (l.map Rc.con = m.map Rc.con) := ⟨_, rfl⟩
  rw [← hb]
  have HBB := Lib.hid hb
  clear hb
  by_cases hlen : l.length = m.length
  · go_enter Try.func19, Try.ntmps19
    go_wp2
    go_loopw [5, 13] (fun _ i wr => ∃ k nq : Nat, k ≤ l.length ∧ i = .int .i64 k ∧ (l.take k).map Rc.con = (m.take k).map Rc.con ∧ wr = w.drewN nq) (fun _ i _ => l.length - (intOf i).toNat)
    case atStart => exact ⟨0, 0, by omega, rfl, rfl, rfl⟩
    case round =>
      obtain ⟨k, nq, hk, rfl, ht, rfl⟩ := hrel
      by_cases hlt : k < l.length
      · obtain ⟨x, hx⟩ : ∃ x, l[k]? = some x := ⟨_, List.getElem?_eq_getElem hlt⟩
        obtain ⟨y, hy⟩ : ∃ y, m[k]? = some y := ⟨_, List.getElem?_eq_getElem (by omega)⟩
        have hdx := da x (List.mem_of_getElem? hx)
        have hdy := db y (List.mem_of_getElem? hy)
        have hrx := hraw x (List.mem_of_getElem? hx)
        obtain ⟨xa, rfl, a0, a1, a2, a3⟩ := rd_at ra hx
        obtain ⟨ya, rfl, b0, b1, b2, b3⟩ := rd_at rb hy
        have g0 : (0 : Int) ≤ k := by omega
        have g1 : (k : Int) < l.length := by omega
        have g2 : (k : Int) < m.length := by omega
        have HT := Lib.hid ht
        have HX := Lib.hid hx
        have HY := Lib.hid hy
        have HDX := Lib.hid hdx
        have HDY := Lib.hid hdy
        clear ht hx hy ra rb da db hraw hdx hdy
        by_cases hxy : x.con = y.con
        · have e1 : x.seq = y.seq := congrArg (·.1) hxy
          have e2 : x.kind = y.kind := congrArg (·.2.1) hxy
          have e3 : x.lba = y.lba := congrArg (·.2.2.1) hxy
          have e4 : x.raw = y.raw := congrArg (·.2.2.2) hxy
          have HXY := Lib.hid hxy
          have hd1 : (x.seq != y.seq) = false := by simp [e1]
          have hd2 : (x.kind != y.kind) = false := by simp [e2]
          have hd3 : (x.lba != y.lba) = false := by simp [e3]
          have hd4 : decide (x.raw = y.raw) = true := decide_eq_true e4
          clear e1 e2 e3 e4 hxy
          go_wp2
          go_quiet ((go_at_call 16; refine (equalb_ok x.A y.A x.c y.c x.raw y.raw _ (HDX.out.dn _) (HDY.out.dn _) hrx).mono ?_; rintro e W ⟨rfl, n, rfl⟩; exact ⟨rfl, _, by rw [World.drewN_drewN, Nat.add_assoc]⟩))
          go_wp2
          go_roundw
          case rel => exact ⟨k + 1, _, by omega, by go_num, by rw [take_snoc_pk HX.out, take_snoc_pk HY.out, List.map_append, List.map_append, HT.out, List.map_cons, List.map_cons, HXY.out], rfl⟩
          case measure => simp [intOf]; omega
        · have hne : decide (l.map Rc.con = m.map Rc.con) = false := decide_eq_false fun e => hxy (by have h1 := congrArg (·[k]?) e; simp only [List.getElem?_map, HX.out, HY.out, Option.map_some] at h1; injection h1)
          obtain rfl : b = false := HBB.out.trans hne
          clear hne
          rcases con_ne hxy with e1 | ⟨e1, e2 | ⟨e2, e3 | ⟨e3, e4⟩⟩⟩
          · have hd1 : (x.seq != y.seq) = true := by simp [e1]
            clear e1 hxy
            go_wp2
            go_quiet (fail)
            go_wp2
            go_ret
            exact ⟨rfl, _, World.drewN_drewN _ _ _⟩
          · have hd1 : (x.seq != y.seq) = false := by simp [e1]
            have hd2 : (x.kind != y.kind) = true := by simp [e2]
            clear e1 e2 hxy
            go_wp2
            go_quiet (fail)
            go_wp2
            go_ret
            exact ⟨rfl, _, World.drewN_drewN _ _ _⟩
          · have hd1 : (x.seq != y.seq) = false := by simp [e1]
            have hd2 : (x.kind != y.kind) = false := by simp [e2]
            have hd3 : (x.lba != y.lba) = true := by simp [e3]
            clear e1 e2 e3 hxy
            go_wp2
            go_quiet (fail)
            go_wp2
            go_ret
            exact ⟨rfl, _, World.drewN_drewN _ _ _⟩
          · have hd1 : (x.seq != y.seq) = false := by simp [e1]
            have hd2 : (x.kind != y.kind) = false := by simp [e2]
            have hd3 : (x.lba != y.lba) = false := by simp [e3]
            have hd4 : decide (x.raw = y.raw) = false := decide_eq_false e4
            clear e1 e2 e3 e4 hxy
            go_wp2
            go_quiet ((go_at_call 16; refine (equalb_ok x.A y.A x.c y.c x.raw y.raw _ (HDX.out.dn _) (HDY.out.dn _) hrx).mono ?_; rintro e W ⟨rfl, n, rfl⟩; exact ⟨rfl, _, by rw [World.drewN_drewN, Nat.add_assoc]⟩))
            go_wp2
            go_ret
            exact ⟨rfl, _, World.drewN_drewN _ _ _⟩
      · obtain rfl : k = l.length := by omega
        have hlm : l.map Rc.con = m.map Rc.con := by rw [List.take_length, List.take_of_length_le (by omega)] at ht; exact ht
        obtain rfl : b = true := HBB.out.trans (decide_eq_true hlm)
        clear ht hlm ra rb
        go_wp2
        go_ret
        exact ⟨rfl, _, rfl⟩
  · have hne : decide (l.map Rc.con = m.map Rc.con) = false := decide_eq_false fun e => hlen (by simpa using congrArg List.length e)
    obtain rfl : b = false := HBB.out.trans hne
    clear hne ra rb
    go_enter Try.func19, Try.ntmps19
    go_wp2
    go_ret
    exact ⟨rfl, 0, rfl⟩
end Go.Proofs.Ytgcmfcdbgimnjaa
