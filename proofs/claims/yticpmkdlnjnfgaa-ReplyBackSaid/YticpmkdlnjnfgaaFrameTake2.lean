/- The walk of Take of layer 4's reference. -/
import Derived.Test.YticpmkdlnjnfgaaFrameTake
namespace Go.Proofs.Yticpmkdlnjnfgaa
open Go.RowKit

theorem take_head (l : List UInt8) (x1 : UInt8) (n k m : Nat) (h0 : l[0]? = some 199) (h1 : l[1]? = some x1) (hk : vput n = (l.drop 2).take k) (hm : m = 2 + k + n) (hl : m ≤ l.length) :
    l.take m = fhead x1 ((l.drop (2 + k)).take n) := by
  match l, h0, h1 with
  | a :: b :: r, h0, h1 =>
    simp at h0 h1
    subst h0 h1
    simp only [List.drop_succ_cons, List.drop_zero] at hk
    have hlen : ((List.drop (2 + k) (199 :: b :: r)).take n).length = n := by
      simp only [List.length_take, List.length_drop, List.length_cons] at *
      omega
    unfold fhead
    rw [hlen, hk, hm]
    have e : 2 + k = k + 2 := by omega
    rw [e, show k + 2 + n = (k + n) + 2 by omega]
    simp only [List.take_succ_cons, List.drop_succ_cons, List.cons_append, List.nil_append]
    rw [List.take_add]

theorem take_frame (l : List UInt8) (x1 : UInt8) (n k m : Nat) (h0 : l[0]? = some 199) (h1 : l[1]? = some x1) (hk : vput n = (l.drop 2).take k) (hm : m = 2 + k + n) (hl : m + 4 ≤ l.length) :
    (fframe x1 ((l.drop (2 + k)).take n) == l.take (m + 4)) = ((l.drop m).take 4 == cbytes (csum (l.take m))) := by
  unfold fframe
  rw [← take_head l x1 n k m h0 h1 hk hm (by omega), List.take_add, Bool.eq_iff_iff, beq_iff_eq, beq_iff_eq, List.append_cancel_left_eq]
  exact ⟨fun h => h.symm, fun h => h.symm⟩

set_option maxRecDepth 100000 in
set_option maxHeartbeats 1600000 in
theorem rftake_any (y : Value) (l : List UInt8) (w : World) (hy : Bs w y l) (hl : l.length ≤ 1048576) : Calls Try.prog 106 #[y] w (TakenPost l w) := by
  obtain ⟨a, ca, adr, hs, ha1, ha2, ha3, ha4, ha5⟩ := Bs.open_ elB hy
  subst hs
  by_cases c1 : l.length = 0
  · have q1 : ((l.length : Int) == 0) = true := by rw [beq_iff_eq]; omega
    have hf : Hid (ftake l = (0, [], 0, 10)) := by show _ = _; unfold ftake; rw [if_pos c1]
    clear c1
    go_enter Try.func106, Try.ntmps106
    go_wp2
    refine bodyPost_ret (v := .tuple #[.int .u8 0, .slice none 0 0, .int .i64 0, .int .i64 10]) (by simp [results, Try.results106, go_sem]) rfl ⟨.slice none 0 0, ?_, ?_, Below.refl _ _⟩
    · rw [hf.out]; rfl
    · rw [hf.out]; exact Rd.nil _ _
  · have q1 : ((l.length : Int) == 0) = false := by rw [beq_eq_false_iff_ne]; omega
    have x00 : ∀ W : World, (Instr.indexAt 24 (.slice a l.length ca) (.int .i64 0)).run Try.prog W = .ok (.pointer (some (adr 0))) W := fun W => ha3 W 0 (by omega) (by omega)
    obtain ⟨x, hx⟩ : ∃ x, l[0]? = some x := ⟨_, List.getElem?_eq_getElem (by omega)⟩
    have h0 : w.cell? (adr 0) = some (.int .u8 x.toNat) := ha5 0 x hx
    by_cases c2 : x = 199
    · have q2 : ((x.toNat : Int) != 199) = false := by rw [c2]; rfl
      by_cases c3 : l.length = 1
      · have q3 : (l.length : Int) < 2 := by omega
        have hf : Hid (ftake l = (0, [], 0, 10)) := by show _ = _; unfold ftake; rw [if_neg c1, if_neg (by rw [hx, c2]; simp), if_pos c3]
        clear c1 c2 c3 hx
        go_enter Try.func106, Try.ntmps106
        go_wp2
        refine bodyPost_ret (v := .tuple #[.int .u8 0, .slice none 0 0, .int .i64 0, .int .i64 10]) (by simp [results, Try.results106, go_sem]) rfl ⟨.slice none 0 0, ?_, ?_, Below.refl _ _⟩
        · rw [hf.out]; rfl
        · rw [hf.out]; exact Rd.nil _ _
      · have hlen2 : (2 : Int) ≤ l.length := by omega
        obtain ⟨n, k, f, hv⟩ : ∃ n k f, vtake (l.drop 2) = (n, k, f) := ⟨_, _, _, rfl⟩
        obtain ⟨Y, hY, hd⟩ := hy.from elB 2 (by omega)
        have hY' : ∀ W : World, (Instr.sliceAt 24 (.slice a l.length ca) (some (.int .i64 2)) none none).run Try.prog W = .ok Y W := hY
        clear hY
        have htk := rtake_any _ _ w hd
        rw [hv] at htk
        have HTK := Lib.hid htk
        have hgood := vtake_good (l.drop 2)
        rw [hv] at hgood
        have HG := Lib.hid hgood
        have hfx : Hid (ftake l = if f ≠ 0 then (0, [], 0, f) else if 1048576 < n then (0, [], 0, 3) else if l.length < 2 + k + n + 4 then (0, [], 0, 10) else if (l.drop (2 + k + n)).take 4 ≠ cbytes (csum (l.take (2 + k + n))) then (0, [], 0, 12)
            else (l[1]?.getD 0, (l.drop (2 + k)).take n, 2 + k + n + 4, 0)) := by
          show _ = _; unfold ftake; rw [if_neg c1, if_neg (by rw [hx, c2]; simp), if_neg c3, hv]
        have x01 : ∀ W : World, (Instr.indexAt 24 (.slice a l.length ca) (.int .i64 1)).run Try.prog W = .ok (.pointer (some (adr 1))) W := fun W => ha3 W 1 (by omega) (by omega)
        obtain ⟨x1, hx1⟩ : ∃ x, l[1]? = some x := ⟨_, List.getElem?_eq_getElem (by omega)⟩
        have h1c : w.cell? (adr 1) = some (.int .u8 x1.toNat) := ha5 1 x1 hx1
        have HX1 := Lib.hid hx1
        have HX0 : Hid (l[0]? = some 199) := by rw [← c2]; exact hx
        have hb1 : (adr 1).block < w.heap.size := ha4 1 (by omega)
        clear htk hgood hv c1 c2 c3 hx hx1 ha4 ha5
        go_enter Try.func106, Try.ntmps106
        go_wp2_with fail
        refine HTK.out.mono ?_
        rintro e w1 ⟨rfl, hw1⟩
        clear hY' HTK
        by_cases c4 : f = 0
        · subst c4
          obtain ⟨hn, hk1, hk2, hput⟩ := HG.out rfl
          try simp only at hn hk1 hk2 hput
          have HP := Lib.hid hput
          clear hput HG
          have hk3 : k ≤ l.length - 2 := by rw [List.length_drop] at hk2; exact hk2
          clear hk2
          by_cases c5 : 1048576 < n
          · have hf : Hid (ftake l = (0, [], 0, 3)) := by show _ = _; rw [hfx.out, if_neg (by omega), if_pos c5]
            go_wp2
            refine bodyPost_ret (v := .tuple #[.int .u8 0, .slice none 0 0, .int .i64 0, .int .i64 3]) (by simp [results, Try.results106, go_sem]) rfl ⟨.slice none 0 0, ?_, ?_, hw1⟩
            · rw [hf.out]; rfl
            · rw [hf.out]; exact Rd.nil _ _
          · by_cases c6 : l.length < 2 + k + n + 4
            · have hf : Hid (ftake l = (0, [], 0, 10)) := by show _ = _; rw [hfx.out, if_neg (by omega), if_neg c5, if_pos c6]
              go_wp2
              refine bodyPost_ret (v := .tuple #[.int .u8 0, .slice none 0 0, .int .i64 0, .int .i64 10]) (by simp [results, Try.results106, go_sem]) rfl ⟨.slice none 0 0, ?_, ?_, hw1⟩
              · rw [hf.out]; rfl
              · rw [hf.out]; exact Rd.nil _ _
            · obtain ⟨m, hm⟩ : ∃ m, m = 2 + k + n := ⟨_, rfl⟩
              rw [← hm] at c6
              have hfx2 : Hid (ftake l = if (l.drop m).take 4 ≠ cbytes (csum (l.take m)) then (0, [], 0, 12) else (l[1]?.getD 0, (l.drop (2 + k)).take n, m + 4, 0)) := by
                show _ = _; rw [hfx.out, if_neg (by omega), if_neg c5, ← hm, if_neg c6]
              have hframe := Lib.hid (take_frame l x1 n k m HX0.out HX1.out HP.out hm (by omega))
              obtain ⟨Y2, hY2, hd2⟩ := hy.upto elB (m + 4) (by omega)
              obtain ⟨Y3, hY3, hd3⟩ := hy.piece elB (2 + k) m (by omega) (by omega)
              have hme : (2 : Int) + k + n = (m : Int) := by omega
              have hm4 : ((m + 4 : Nat) : Int) = (m : Int) + 4 := by omega
              have hk22 : ((2 + k : Nat) : Int) = 2 + (k : Int) := by omega
              have hm44 : (m : Int) + 4 - 4 = m := by omega
              rw [hm4] at hY2
              rw [hk22] at hY3
              have hmn : (l.drop (2 + k)).take (m - (2 + k)) = (l.drop (2 + k)).take n := by congr 1; omega
              rw [hmn] at hd3
              have h1w : w1.cell? (adr 1) = some (.int .u8 x1.toNat) := (hw1.cell hb1).trans h1c
              have hbd2 := hd2.below hw1
              have hbd3 := hd3.below hw1
              have hcl : ((l.drop (2 + k)).take n).length ≤ 1048576 := by rw [List.length_take]; omega
              clear hm hmn hm4 hk22 ha3 hfx
              have hcm : (m : Int) + 4 ≤ l.length := by omega
              have hb1w : (adr 1).block < w1.heap.size := by have := hw1.size; omega
              by_cases c7 : (l.drop m).take 4 = cbytes (csum (l.take m))
              · have heq : Hid ((fframe x1 ((l.drop (2 + k)).take n) == l.take (m + 4)) = true) := by show _ = _; rw [hframe.out]; simp [c7]
                have hf : Hid (ftake l = (l[1]?.getD 0, (l.drop (2 + k)).take n, m + 4, 0)) := by show _ = _; rw [hfx2.out, if_neg (by simpa using c7)]
                clear c7
                go_wp2
                go_region_held3 (fun w' => w'.cell? (adr 1) = some (.int .u8 x1.toNat)) (go_keep) (first | (go_at_call 82; refine (rfput_any x1 _ rfl _ _ _ hbd3.drew hcl).mono ?_; rintro e w2 ⟨v2, rfl, ho2, hw2⟩; have g2 := (hw2.cell hb1w).trans h1w) | (go_at_call 16; refine (same_any _ _ _ _ _ ho2.bs (hbd2.drew.below hw2)).mono ?_; rintro e w3 ⟨rfl, hw3⟩; rw [heq.out]; have g3 := (hw3.cell (Nat.lt_of_lt_of_le hb1w hw2.size)).trans g2))
                have hwW3 := (hw1.drew.trans (hw2.mono hw1.size)).trans (hw3.mono (Nat.le_trans hw1.size hw2.size))
                have hbd33 := hd3.below hwW3
                clear ho2
                go_wp2
                refine bodyPost_ret (v := .tuple #[.int .u8 x1.toNat, Y3, .int .i64 ((m : Int) + 4), .int .i64 0]) (by simp [results, Try.results106, go_sem]) rfl ⟨Y3, ?_, ?_, hwW3⟩
                · rw [hf.out, HX1.out]; rfl
                · rw [hf.out]; exact hbd33
              · have heq : Hid ((fframe x1 ((l.drop (2 + k)).take n) == l.take (m + 4)) = false) := by show _ = _; rw [hframe.out]; simp [c7]
                have hf : Hid (ftake l = (0, [], 0, 12)) := by show _ = _; rw [hfx2.out, if_pos c7]
                clear c7
                go_wp2
                go_region_held3 (fun w' => w'.cell? (adr 1) = some (.int .u8 x1.toNat)) (go_keep) (first | (go_at_call 82; refine (rfput_any x1 _ rfl _ _ _ hbd3.drew hcl).mono ?_; rintro e w2 ⟨v2, rfl, ho2, hw2⟩; have g2 := (hw2.cell hb1w).trans h1w) | (go_at_call 16; refine (same_any _ _ _ _ _ ho2.bs (hbd2.drew.below hw2)).mono ?_; rintro e w3 ⟨rfl, hw3⟩; rw [heq.out]; have g3 := (hw3.cell (Nat.lt_of_lt_of_le hb1w hw2.size)).trans g2))
                have hwW3 := (hw1.drew.trans (hw2.mono hw1.size)).trans (hw3.mono (Nat.le_trans hw1.size hw2.size))
                clear ho2
                go_wp2
                refine bodyPost_ret (v := .tuple #[.int .u8 0, .slice none 0 0, .int .i64 0, .int .i64 12]) (by simp [results, Try.results106, go_sem]) rfl ⟨.slice none 0 0, ?_, ?_, hwW3⟩
                · rw [hf.out]; rfl
                · rw [hf.out]; exact Rd.nil _ _
        · have hf : Hid (ftake l = (0, [], 0, f)) := by show _ = _; rw [hfx.out, if_pos c4]
          have q4 : ((f : Int) != 0) = true := by rw [bne_iff_ne]; omega
          clear c4
          go_wp2
          refine bodyPost_ret (v := .tuple #[.int .u8 0, .slice none 0 0, .int .i64 0, .int .i64 f]) (by simp [results, Try.results106, go_sem]) rfl ⟨.slice none 0 0, ?_, ?_, hw1⟩
          · rw [hf.out]; rfl
          · rw [hf.out]; exact Rd.nil _ _
    · have q2 : ((x.toNat : Int) != 199) = true := by
        rw [bne_iff_ne]; intro h; apply c2; apply UInt8.toNat_inj.1; have : (199 : UInt8).toNat = 199 := rfl; omega
      have hf : Hid (ftake l = (0, [], 0, 11)) := by show _ = _; unfold ftake; rw [if_neg c1, if_pos (by rw [hx]; simpa using c2)]
      clear c1 c2 hx
      go_enter Try.func106, Try.ntmps106
      go_wp2
      refine bodyPost_ret (v := .tuple #[.int .u8 0, .slice none 0 0, .int .i64 0, .int .i64 11]) (by simp [results, Try.results106, go_sem]) rfl ⟨.slice none 0 0, ?_, ?_, Below.refl _ _⟩
      · rw [hf.out]; rfl
      · rw [hf.out]; exact Rd.nil _ _

end Go.Proofs.Yticpmkdlnjnfgaa
