/- Walks of Take and Whole of layer 4 (frame) and of its reference. -/
import Derived.Test.YticpmkdlnjnfgaaFramePut
import Derived.Test.YticpmkdlnjnfgaaVTake
import Derived.Test.YticpmkdlnjnfgaaVBspec
import Derived.Test.YticpmkdlnjnfgaaWriter
import Derived.Test.YticpmkdlnjnfgaaBase3
import Derived.Deep.RegionHeld3
namespace Go.Proofs.Yticpmkdlnjnfgaa
open Go.RowKit

/-- what bytes begin with, as a frame: kind, content, how many bytes, the error's number -/
def ftake (b : List UInt8) : UInt8 × List UInt8 × Nat × Nat :=
  if b.length = 0 then (0, [], 0, 10)
  else if b[0]? ≠ some 199 then (0, [], 0, 11)
  else if b.length = 1 then (0, [], 0, 10)
  else if (vtake (b.drop 2)).2.2 ≠ 0 then (0, [], 0, (vtake (b.drop 2)).2.2)
  else if 1048576 < (vtake (b.drop 2)).1 then (0, [], 0, 3)
  else if b.length < 2 + (vtake (b.drop 2)).2.1 + (vtake (b.drop 2)).1 + 4 then (0, [], 0, 10)
  else if (b.drop (2 + (vtake (b.drop 2)).2.1 + (vtake (b.drop 2)).1)).take 4 ≠ cbytes (csum (b.take (2 + (vtake (b.drop 2)).2.1 + (vtake (b.drop 2)).1))) then (0, [], 0, 12)
  else (b[1]?.getD 0, (b.drop (2 + (vtake (b.drop 2)).2.1)).take (vtake (b.drop 2)).1, 2 + (vtake (b.drop 2)).2.1 + (vtake (b.drop 2)).1 + 4, 0)

theorem Bs.str {w : World} {v : Value} {l : List UInt8} (h : Bs w v l) : (convert 24 9 v).run Try.prog w = .ok (.string ⟨l.toArray⟩) w := by
  obtain ⟨_, a, c, rfl, h2, h3, h4, h5⟩ := h
  cases a with
  | none =>
    obtain rfl := h4 rfl
    have : l = [] := List.eq_nil_of_length_eq_zero (by omega)
    subst this
    rw [run_convert_bytes_string w 24 9 5 none _ _ Try.underlying24 Try.underlying5 Try.underlying9]
    rfl
  | some ad =>
    refine run_convert_bytes_back w 24 9 5 ad c l Try.underlying24 Try.underlying5 Try.underlying9 fun j hj => ?_
    rcases h5 with h5 | ⟨b, off, he, _, hc⟩
    · omega
    · cases he
      rw [Addr.add_lit]
      exact hc j _ (by simp [hj, bv])

theorem str_beq (la lb : List UInt8) : ((⟨la.toArray⟩ : ByteArray).toList == (⟨lb.toArray⟩ : ByteArray).toList) = (la == lb) := by
  rw [Go.ByteArray.toList_eq, Go.ByteArray.toList_eq]

theorem equal_any (va vb : Value) (la lb : List UInt8) (w : World) (ha : Bs w va la) (hb : Bs w vb lb) :
    Calls Try.prog 70 #[va, vb] w fun e w' => e = .returned (.bool (la == lb)) ∧ w = w' := by
  obtain ⟨a, ca, hs⟩ := ha.shape
  subst hs
  obtain ⟨b, cb, hs⟩ := hb.shape
  subst hs
  have h1 := ha.str
  have h2 := hb.str
  obtain ⟨sa, hsa⟩ : ∃ s : ByteArray, s = ⟨la.toArray⟩ := ⟨_, rfl⟩
  obtain ⟨sb, hsb⟩ : ∃ s : ByteArray, s = ⟨lb.toArray⟩ := ⟨_, rfl⟩
  rw [← hsa] at h1
  rw [← hsb] at h2
  have HA := Lib.hid hsa
  have HB := Lib.hid hsb
  clear hsa hsb ha hb
  go_enter Try.func70, Try.ntmps70
  go_wp2
  go_ret
  exact ⟨ret_bool (by rw [HA.out, HB.out, str_beq]), rfl⟩


def TakenPost (l : List UInt8) (w : World) (e : Ending) (w' : World) : Prop :=
  ∃ v, e = .returned (.tuple #[.int .u8 (ftake l).1.toNat, v, .int .i64 (ftake l).2.2.1, .int .i64 (ftake l).2.2.2]) ∧ Bs w' v (ftake l).2.1 ∧ Below w.heap.size w w'

def FTakeJ (w : World) (l : List UInt8) (y : Value) (a' : Act) (wr : World) : Prop :=
  ∃ (e : Nat) (u2 u3 u4 u6 u7 u8 u9 u10 u11 u12 u13 u14 u15 u16 u17 u18 u19 u20 u21 u22 u23 u24 u25 u26 u27 u28 u29 u30 u31 u32 u33 u34 u35 u36 u37 u38 u39 u40 u41 u42 u43 u44 u45 u46 u47 u48 u49 u50 u51 u52 u53 u54 u55 u56 u57 u58 u59 u60 u61 u62 u63 : Value), a' = { tmps := List.toArray ((y) :: (undef) :: (u2) :: (u3) :: (u4) :: (.int .i64 e) :: (u6) :: (u7) :: (u8) :: (u9) :: (u10) :: (u11) :: (u12) :: (u13) :: (u14) :: (u15) :: (u16) :: (u17) :: (u18) :: (u19) :: (u20) :: (u21) :: (u22) :: (u23) :: (u24) :: (u25) :: (u26) :: (u27) :: (u28) :: (u29) :: (u30) :: (u31) :: (u32) :: (u33) :: (u34) :: (u35) :: (u36) :: (u37) :: (u38) :: (u39) :: (u40) :: (u41) :: (u42) :: (u43) :: (u44) :: (u45) :: (u46) :: (u47) :: (u48) :: (u49) :: (u50) :: (u51) :: (u52) :: (u53) :: (u54) :: (u55) :: (u56) :: (u57) :: (u58) :: (u59) :: (u60) :: (u61) :: (u62) :: (u63) :: []), defers := [] } ∧ Hid (ftake l = (0, [], 0, e)) ∧ Below w.heap.size w wr

set_option maxRecDepth 100000 in
set_option maxHeartbeats 1600000 in
theorem ftake_any (y : Value) (l : List UInt8) (w : World) (hy : Bs w y l) (hl : l.length ≤ 1073741824) : Calls Try.prog 111 #[y] w (TakenPost l w) := by
  obtain ⟨a, ca, adr, hs, ha1, ha2, ha3, ha4, ha5⟩ := Bs.open_ elB hy
  subst hs
  go_enter Try.func111, Try.ntmps111
  go_wp2
  refine wp_scope_jumps 0 (FTakeJ w l (.slice a l.length ca)) (fun _ _ => 0) rfl ?_ ?_
  · by_cases c1 : l.length = 0
    · have q1 : ((l.length : Int) == 0) = true := by rw [beq_iff_eq]; omega
      have hf : Hid (ftake l = (0, [], 0, 10)) := by show _ = _; unfold ftake; rw [if_pos c1]
      clear c1
      go_wp2
      go_step3
      exact ⟨rfl, 10, _, _, _, _, _, _, _, _, _, _, _, _, _, _, _, _, _, _, _, _, _, _, _, _, _, _, _, _, _, _, _, _, _, _, _, _, _, _, _, _, _, _, _, _, _, _, _, _, _, _, _, _, _, _, _, _, _, _, _, _, _, rfl, hf, Below.refl _ _⟩
    · have q1 : ((l.length : Int) == 0) = false := by rw [beq_eq_false_iff_ne]; omega
      have x00 : ∀ W : World, (Instr.indexAt 24 (.slice a l.length ca) (.int .i64 0)).run Try.prog W = .ok (.pointer (some (adr 0))) W := fun W => ha3 W 0 (by omega) (by omega)
      obtain ⟨x, hx⟩ : ∃ x, l[0]? = some x := ⟨_, List.getElem?_eq_getElem (by omega)⟩
      have h0 : w.cell? (adr 0) = some (.int .u8 x.toNat) := ha5 0 x hx
      by_cases c2 : x = 199
      · have q2 : ((x.toNat : Int) != 199) = false := by rw [c2]; rfl
        by_cases c3 : l.length = 1
        · have q3 : ((l.length : Int) == 1) = true := by rw [beq_iff_eq]; omega
          have hf : Hid (ftake l = (0, [], 0, 10)) := by show _ = _; unfold ftake; rw [if_neg c1, if_neg (by rw [hx, c2]; simp), if_pos c3]
          clear c1 c2 c3 hx
          go_wp2
          go_step3
          exact ⟨rfl, 10, _, _, _, _, _, _, _, _, _, _, _, _, _, _, _, _, _, _, _, _, _, _, _, _, _, _, _, _, _, _, _, _, _, _, _, _, _, _, _, _, _, _, _, _, _, _, _, _, _, _, _, _, _, _, _, _, _, _, _, _, _, rfl, hf, Below.refl _ _⟩
        · have q3 : ((l.length : Int) == 1) = false := by rw [beq_eq_false_iff_ne]; omega
          have hlen2 : (2 : Int) ≤ l.length := by omega
          obtain ⟨n, k, f, hv⟩ : ∃ n k f, vtake (l.drop 2) = (n, k, f) := ⟨_, _, _, rfl⟩
          obtain ⟨Y, hY, hd⟩ := hy.from elB 2 (by omega)
          have hY' : ∀ W : World, (Instr.sliceAt 24 (.slice a l.length ca) (some (.int .i64 2)) none none).run Try.prog W = .ok Y W := hY
          clear hY
          have htk := take_any _ _ w hd
          rw [hv] at htk
          have HTK := Lib.hid htk
          have hgood := vtake_good (l.drop 2)
          rw [hv] at hgood
          have HG := Lib.hid hgood
          have hfx : Hid (ftake l = if f ≠ 0 then (0, [], 0, f) else if 1048576 < n then (0, [], 0, 3) else if l.length < 2 + k + n + 4 then (0, [], 0, 10) else if (l.drop (2 + k + n)).take 4 ≠ cbytes (csum (l.take (2 + k + n))) then (0, [], 0, 12)
              else (l[1]?.getD 0, (l.drop (2 + k)).take n, 2 + k + n + 4, 0)) := by
            show _ = _; unfold ftake; rw [if_neg c1, if_neg (by rw [hx, c2]; simp), if_neg c3, hv]
          have x01 : ∀ W : World, (Instr.indexAt 24 (.slice a l.length ca) (.int .i64 1)).run Try.prog W = .ok (.pointer (some (adr 1))) W := fun W => ha3 W 1 (by omega) (by omega)
          obtain ⟨x1, hx1⟩ : ∃ x, l[1]? = some x := ⟨_, List.getElem?_eq_getElem (by omega)⟩
          have h1c : w.cell? (adr 1) = some (.int .u8 x1.toNat) := ha5 1 x1 hx1
          have HX1 := Lib.hid hx1
          have hb1 : (adr 1).block < w.heap.size := ha4 1 (by omega)
          clear htk hgood hv hd c1 c2 c3 hx hx1 ha4 ha5
          go_wp2_with fail
          refine HTK.out.mono ?_
          rintro e w1 ⟨rfl, hw1⟩
          clear hY' HTK
          by_cases c4 : f = 0
          · subst c4
            obtain ⟨hn, hk1, hk2, hput⟩ := HG.out rfl
            try simp only at hn hk1 hk2 hput
            have HP := Lib.hid hput
            clear hput HG
            have hk3 : k ≤ l.length - 2 := by rw [List.length_drop] at hk2; exact hk2
            clear hk2
            by_cases c5 : 1048576 < n
            · have hf : Hid (ftake l = (0, [], 0, 3)) := by show _ = _; rw [hfx.out, if_neg (by omega), if_pos c5]
              go_wp2
              go_step3
              exact ⟨rfl, 3, _, _, _, _, _, _, _, _, _, _, _, _, _, _, _, _, _, _, _, _, _, _, _, _, _, _, _, _, _, _, _, _, _, _, _, _, _, _, _, _, _, _, _, _, _, _, _, _, _, _, _, _, _, _, _, _, _, _, _, _, _, rfl, hf, hw1⟩
            · by_cases c6 : l.length < 2 + k + n + 4
              · have hf : Hid (ftake l = (0, [], 0, 10)) := by show _ = _; rw [hfx.out, if_neg (by omega), if_neg c5, if_pos c6]
                go_wp2
                go_step3
                exact ⟨rfl, 10, _, _, _, _, _, _, _, _, _, _, _, _, _, _, _, _, _, _, _, _, _, _, _, _, _, _, _, _, _, _, _, _, _, _, _, _, _, _, _, _, _, _, _, _, _, _, _, _, _, _, _, _, _, _, _, _, _, _, _, _, _, rfl, hf, hw1⟩
              · obtain ⟨m, hm⟩ : ∃ m, m = 2 + k + n := ⟨_, rfl⟩
                rw [← hm] at c6
                have hfx2 : Hid (ftake l = if (l.drop m).take 4 ≠ cbytes (csum (l.take m)) then (0, [], 0, 12) else (l[1]?.getD 0, (l.drop (2 + k)).take n, m + 4, 0)) := by
                  show _ = _; rw [hfx.out, if_neg (by omega), if_neg c5, ← hm, if_neg c6]
                obtain ⟨Y1, hY1, hd1⟩ := hy.piece elB m (m + 4) (by omega) (by omega)
                obtain ⟨Y2, hY2, hd2⟩ := hy.upto elB m (by omega)
                obtain ⟨Y3, hY3, hd3⟩ := hy.piece elB (2 + k) m (by omega) (by omega)
                have hme : (2 : Int) + k + n = (m : Int) := by omega
                have hm4 : ((m + 4 : Nat) : Int) = (m : Int) + 4 := by omega
                have hk22 : ((2 + k : Nat) : Int) = 2 + (k : Int) := by omega
                rw [hm4] at hY1
                rw [hk22] at hY3
                have hw4 : IntKind.i64.wrap ((m : Int) + 4) = (m : Int) + 4 := IntWalk.i64_in _ (by constructor <;> omega)
                have hw5 : IntKind.i64.wrap (2 + (k : Int)) = 2 + (k : Int) := IntWalk.i64_in _ (by constructor <;> omega)
                have hmn : (l.drop (2 + k)).take (m - (2 + k)) = (l.drop (2 + k)).take n := by congr 1; omega
                rw [hmn] at hd3
                have hm4' : m + 4 - m = 4 := by omega
                rw [hm4'] at hd1
                have h1w : w1.cell? (adr 1) = some (.int .u8 x1.toNat) := (hw1.cell hb1).trans h1c
                have hbd1 := hd1.below hw1
                have hbd2 := hd2.below hw1
                have hbd3 := hd3.below hw1
                clear hm hmn hm4 hm4' hk22 ha3 hfx
                have hcm : (m : Int) + 4 ≤ l.length := by omega
                go_wp2
                by_cases c7 : (l.drop m).take 4 = cbytes (csum (l.take m))
                · have heq : Hid (((l.drop m).take 4 == cbytes (csum (l.take m))) = true) := by show _ = _; simp [c7]
                  have hf : Hid (ftake l = (l[1]?.getD 0, (l.drop (2 + k)).take n, m + 4, 0)) := by show _ = _; rw [hfx2.out, if_neg (by simpa using c7)]
                  clear c7
                  go_region_held3 (fun _ => True) (exact trivial) (first | (go_at_call 108; refine (sum_any _ _ _ hbd2.drew).mono ?_; rintro e w2 ⟨rfl, hw2⟩) | (go_at_call 107; refine (cbytes_any _ (csum_lt _) _).mono ?_; rintro e w3 ⟨v3, rfl, ho3, hw3⟩) | (go_at_call 70; refine (equal_any _ _ _ _ _ ((hbd1.drew.below hw2).below hw3) ho3.bs).mono ?_; rintro e w4 ⟨rfl, rfl⟩; rw [heq.out]))
                  have hW3 : Below w1.heap.size w1 w3 := (((Below.refl _ _).drew).trans (hw2.mono (Nat.le_refl _))).trans (hw3.mono (by have := hw2.size; exact this))
                  have hwW3 := hw1.trans (hW3.mono hw1.size)
                  have h1w3 : w3.cell? (adr 1) = some (.int .u8 x1.toNat) := (hwW3.cell hb1).trans h1c
                  have hb13 : (adr 1).block < w3.heap.size := by have := hwW3.size; omega
                  have hbd33 := (hd3.below hwW3).drew
                  have H3 := Lib.hid ho3
                  clear ho3
                  go_wp2
                  go_region_held3 (fun w' => w'.cell? (adr 1) = some (.int .u8 x1.toNat)) (go_keep) (first | (go_at_call 97; refine (clone_any _ _ _ hbd33 (by simp; omega)).mono ?_; rintro e w5 ⟨v5, rfl, ho5, hw5⟩; have g5 := (hw5.cell hb13).trans h1w3))
                  go_wp2
                  simp only [Exit.jump]
                  refine bodyPost_ret (v := .tuple #[.int .u8 x1.toNat, v5, .int .i64 ((m : Int) + 4), .int .i64 0]) (by simp [results, Try.results111, go_sem]) rfl ⟨v5, ?_, ?_, ?_⟩
                  · rw [hf.out, HX1.out]; rfl
                  · rw [hf.out]; exact ho5.bs
                  · exact hwW3.drew.trans (hw5.mono hwW3.size)
                · have heq : Hid (((l.drop m).take 4 == cbytes (csum (l.take m))) = false) := by show _ = _; simp [c7]
                  have hf : Hid (ftake l = (0, [], 0, 12)) := by show _ = _; rw [hfx2.out, if_pos c7]
                  clear c7
                  go_region_held3 (fun _ => True) (exact trivial) (first | (go_at_call 108; refine (sum_any _ _ _ hbd2.drew).mono ?_; rintro e w2 ⟨rfl, hw2⟩) | (go_at_call 107; refine (cbytes_any _ (csum_lt _) _).mono ?_; rintro e w3 ⟨v3, rfl, ho3, hw3⟩) | (go_at_call 70; refine (equal_any _ _ _ _ _ ((hbd1.drew.below hw2).below hw3) ho3.bs).mono ?_; rintro e w4 ⟨rfl, rfl⟩; rw [heq.out]))
                  have hW3 : Below w1.heap.size w1 w3 := (((Below.refl _ _).drew).trans (hw2.mono (Nat.le_refl _))).trans (hw3.mono (by have := hw2.size; exact this))
                  have hwW3 := hw1.trans (hW3.mono hw1.size)
                  clear ho3
                  go_wp2
                  go_step3
                  exact ⟨rfl, 12, _, _, _, _, _, _, _, _, _, _, _, _, _, _, _, _, _, _, _, _, _, _, _, _, _, _, _, _, _, _, _, _, _, _, _, _, _, _, _, _, _, _, _, _, _, _, _, _, _, _, _, _, _, _, _, _, _, _, _, _, _, rfl, hf, hwW3⟩
          · have hf : Hid (ftake l = (0, [], 0, f)) := by show _ = _; rw [hfx.out, if_pos c4]
            have q4 : ((f : Int) != 0) = true := by rw [bne_iff_ne]; omega
            clear c4
            go_wp2
            go_step3
            exact ⟨rfl, f, _, _, _, _, _, _, _, _, _, _, _, _, _, _, _, _, _, _, _, _, _, _, _, _, _, _, _, _, _, _, _, _, _, _, _, _, _, _, _, _, _, _, _, _, _, _, _, _, _, _, _, _, _, _, _, _, _, _, _, _, _, rfl, hf, hw1⟩
      · have q2 : ((x.toNat : Int) != 199) = true := by
          rw [bne_iff_ne]; intro h; apply c2; apply UInt8.toNat_inj.1; have : (199 : UInt8).toNat = 199 := rfl; omega
        have hf : Hid (ftake l = (0, [], 0, 11)) := by show _ = _; unfold ftake; rw [if_neg c1, if_pos (by rw [hx]; simpa using c2)]
        clear c1 c2 hx
        go_wp2
        go_step3
        exact ⟨rfl, 11, _, _, _, _, _, _, _, _, _, _, _, _, _, _, _, _, _, _, _, _, _, _, _, _, _, _, _, _, _, _, _, _, _, _, _, _, _, _, _, _, _, _, _, _, _, _, _, _, _, _, _, _, _, _, _, _, _, _, _, _, _, rfl, hf, Below.refl _ _⟩
  · rintro a' wr ⟨e, u2, u3, u4, u6, u7, u8, u9, u10, u11, u12, u13, u14, u15, u16, u17, u18, u19, u20, u21, u22, u23, u24, u25, u26, u27, u28, u29, u30, u31, u32, u33, u34, u35, u36, u37, u38, u39, u40, u41, u42, u43, u44, u45, u46, u47, u48, u49, u50, u51, u52, u53, u54, u55, u56, u57, u58, u59, u60, u61, u62, u63, rfl, hf, hb⟩
    have HF := Lib.hid hf.out
    clear hf
    go_wp2
    simp only [Exit.jump]
    refine bodyPost_ret (v := .tuple #[.int .u8 0, .slice none 0 0, .int .i64 0, .int .i64 e]) (by simp [results, Try.results111, go_sem]) rfl ⟨.slice none 0 0, ?_, ?_, hb⟩
    · rw [HF.out]; rfl
    · rw [HF.out]; exact Rd.nil _ _


end Go.Proofs.Yticpmkdlnjnfgaa
