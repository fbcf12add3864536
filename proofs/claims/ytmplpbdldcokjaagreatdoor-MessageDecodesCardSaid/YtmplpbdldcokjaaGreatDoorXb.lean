/- Merged texts: The walks of the functions that look at one byte. The walks of the names: term.in, term.spelled, term.Name, term.Variable, term.Number. The walks of the words: term.Name, term.Variable, term.Number, lexer.Word, and the reference's Word, Name, Number, Variable, IsNumber. -/
import Derived.Test.YtmplpbdldcokjaaGreatDoorProg
import Derived.Test.YtmplpbdldcokjaaGreatDoorXa
import Derived.Deep.QuietTactic
import Derived.BigQuiet
import Derived.Deep.RegionWith
import Derived.StillTailTactics
import Derived.Deep.DeepMust
import Derived.Deep.DeepFit
namespace Go.Proofs.YtmplpbdldcokjaaGreatDoor
/- The walks of the functions that look at one byte. -/
section
open Go Go.RowKit

set_option maxHeartbeats 400000 in
theorem inRun_any (w : World) (n : Int) : Calls Tryz.prog 123 #[.int .u8 n] w fun e w' => e = .returned (.bool (runB n)) ∧ w = w' := by
  go_enter Tryz.func123, Tryz.ntmps123
  go_wp2
  all_goals go_ret
  all_goals refine ⟨ret_bool ?_, rfl⟩
  all_goals (rw [Bool.eq_iff_iff]; simp [runB, lowerB, upperB, digitB]; omega)

set_option maxHeartbeats 400000 in
theorem blank_any (w : World) (n : Int) : Calls Tryz.prog 120 #[.int .u8 n] w fun e w' => e = .returned (.bool (blankB n)) ∧ w = w' := by
  go_enter Tryz.func120, Tryz.ntmps120
  go_wp2
  all_goals go_ret
  all_goals refine ⟨ret_bool ?_, rfl⟩
  all_goals (rw [Bool.eq_iff_iff]; simp_all [blankB])

set_option maxHeartbeats 400000 in
theorem noLf_any (w : World) (n : Int) : Calls Tryz.prog 122 #[.int .u8 n] w fun e w' => e = .returned (.bool (noLf n)) ∧ w = w' := by
  go_enter Tryz.func122, Tryz.ntmps122
  go_wp2
  all_goals go_ret
  all_goals refine ⟨ret_bool ?_, rfl⟩
  all_goals (rw [Bool.eq_iff_iff]; simp_all [noLf])

set_option maxHeartbeats 400000 in
theorem rPart_any (w : World) (n : Int) : Calls Tryz.prog 158 #[.int .u8 n] w fun e w' => e = .returned (.bool (runB n)) ∧ w = w' := by
  go_enter Tryz.func158, Tryz.ntmps158
  go_wp2
  all_goals go_ret
  all_goals refine ⟨ret_bool ?_, rfl⟩
  all_goals (rw [Bool.eq_iff_iff]; simp_all [runB, lowerB, upperB, digitB]; try omega)

set_option maxHeartbeats 400000 in
theorem rSym_any (w : World) (n : Int) : Calls Tryz.prog 157 #[.int .u8 n] w fun e w' => e = .returned (.bool (symB n)) ∧ w = w' := by
  go_enter Tryz.func157, Tryz.ntmps157
  go_wp2
  all_goals go_ret
  all_goals refine ⟨ret_bool ?_, rfl⟩
  all_goals (rw [Bool.eq_iff_iff]; simp_all [symB])

set_option maxHeartbeats 400000 in
theorem rBlank_any (w : World) (n : Int) : Calls Tryz.prog 156 #[.int .u8 n] w fun e w' => e = .returned (.bool (blankB n)) ∧ w = w' := by
  go_enter Tryz.func156, Tryz.ntmps156
  go_wp2
  all_goals go_ret
  all_goals refine ⟨ret_bool ?_, rfl⟩
  all_goals (rw [Bool.eq_iff_iff]; simp_all [blankB])

set_option maxHeartbeats 400000 in
theorem rLower_any (w : World) (n : Int) : Calls Tryz.prog 68 #[.int .u8 n] w fun e w' => e = .returned (.bool (lowerB n)) ∧ w = w' := by
  go_enter Tryz.func68, Tryz.ntmps68
  go_wp2
  all_goals go_ret
  all_goals refine ⟨ret_bool ?_, rfl⟩
  all_goals (rw [Bool.eq_iff_iff]; simp [lowerB]; omega)

set_option maxHeartbeats 400000 in
theorem rUpper_any (w : World) (n : Int) : Calls Tryz.prog 150 #[.int .u8 n] w fun e w' => e = .returned (.bool (upperB n)) ∧ w = w' := by
  go_enter Tryz.func150, Tryz.ntmps150
  go_wp2
  all_goals go_ret
  all_goals refine ⟨ret_bool ?_, rfl⟩
  all_goals (rw [Bool.eq_iff_iff]; simp [upperB]; omega)

set_option maxHeartbeats 400000 in
theorem rDigit_any (w : World) (n : Int) : Calls Tryz.prog 69 #[.int .u8 n] w fun e w' => e = .returned (.bool (digitB n)) ∧ w = w' := by
  go_enter Tryz.func69, Tryz.ntmps69
  go_wp2
  all_goals go_ret
  all_goals refine ⟨ret_bool ?_, rfl⟩
  all_goals (rw [Bool.eq_iff_iff]; simp [digitB]; omega)

end
/- The walks of the names: term.in, term.spelled, term.Name, term.Variable, term.Number. -/
section
open Go Go.RowKit

/-- is c in one of the first n spans -/
def inB (lo hi : Nat → Int) (c : Int) : Nat → Bool
  | 0 => false
  | n + 1 => inB lo hi c n || (decide (lo n ≤ c) && decide (c ≤ hi n))

theorem inB_hit {lo hi : Nat → Int} {c : Int} {k : Nat} (h1 : lo k ≤ c) (h2 : c ≤ hi k) : ∀ {n : Nat}, k < n → inB lo hi c n = true
  | 0, h => absurd h (Nat.not_lt_zero _)
  | n + 1, h => by
    unfold inB
    rcases Nat.lt_or_ge k n with hlt | hge
    · rw [inB_hit h1 h2 hlt]; rfl
    · obtain rfl : k = n := by omega
      simp [h1, h2]
theorem inB_miss {lo hi : Nat → Int} {c : Int} {k : Nat} (h : inB lo hi c k = false) (h2 : ¬ lo k ≤ c ∨ hi k < c) : inB lo hi c (k + 1) = false := by
  unfold inB
  rw [h]
  simp only [Bool.false_or, Bool.and_eq_false_iff, decide_eq_false_iff_not]
  omega

set_option maxHeartbeats 400000 in
theorem in_any (w : World) (c : Int) (g n cap : Nat) (lo hi : Nat → Int) (hg : g < w.heap.size) (hn : n ≤ 3)
    (h0 : ∀ j, j < n → w.cell? ⟨g, j * 2, none⟩ = some (.int .u8 (lo j))) (h1 : ∀ j, j < n → w.cell? ⟨g, j * 2 + 1, none⟩ = some (.int .u8 (hi j))) :
    Calls Tryz.prog 85 #[.int .u8 c, .slice (some ⟨g, 0, none⟩) n cap] w fun e w' => e = .returned (.bool (inB lo hi c n)) ∧ Below w.heap.size w w' := by
  go_enter Tryz.func85, Tryz.ntmps85
  go_wp2
  go_loopw [9] (fun i wr => ∃ k : Nat, k ≤ n ∧ i = .int .i64 k ∧ inB lo hi c k = false ∧ Below w.heap.size w wr) (fun i _ => n - (intOf i).toNat)
  case atStart => exact ⟨0, Nat.zero_le _, rfl, rfl, Below.refl _ _⟩
  case round =>
    obtain ⟨k, hk, rfl, hno, hb⟩ := hrel
    have HN : Hid (inB lo hi c k = false) := hno
    clear hno
    have hgr : g < wr.heap.size := Nat.lt_of_lt_of_le hg hb.size
    by_cases hlt : k < n
    · have c0 : wr.cell? ⟨g, k * 2, none⟩ = some (.int .u8 (lo k)) := (hb.cell (p := ⟨g, k * 2, none⟩) hg).trans (h0 k hlt)
      have c1 : wr.cell? ⟨g, k * 2 + 1, none⟩ = some (.int .u8 (hi k)) := (hb.cell (p := ⟨g, k * 2 + 1, none⟩) hg).trans (h1 k hlt)
      clear h0 h1
      have hb2 : Below w.heap.size w (wr.alloc (.cells #[.int .u8 (lo k), .int .u8 (hi k)] 84)) := hb.alloc hb.size _
      have HB := Lib.hid hb2
      clear hb2
      go_wp2
      · go_ret
        exact ⟨ret_bool (inB_hit (by assumption) (by assumption) hlt).symm, HB.out⟩
      · go_roundw
        case rel => exact ⟨k + 1, by omega, by go_num, inB_miss HN.out (.inr (by assumption)), HB.out⟩
        case measure => simp [intOf]; omega
      · go_roundw
        case rel => exact ⟨k + 1, by omega, by go_num, inB_miss HN.out (.inl (by assumption)), HB.out⟩
        case measure => simp [intOf]; omega
    · clear h0 h1
      go_wp2
      go_ret
      obtain rfl : k = n := by omega
      exact ⟨ret_bool HN.out.symm, hb⟩

/-- spelled, by the three spans -/
def spelledB (a b c d e f : Int) (l : List UInt8) : Bool :=
  decide (1 ≤ l.length) && decide (l.length ≤ 16) && (decide (a ≤ bInt (l.headD 0)) && decide (bInt (l.headD 0) ≤ b)) &&
    l.all (fun x => (decide (a ≤ bInt x) && decide (bInt x ≤ b)) || (decide (c ≤ bInt x) && decide (bInt x ≤ d)) || (decide (e ≤ bInt x) && decide (bInt x ≤ f)))

/-- block g holds the six bounds of three spans -/
def Sp (w : World) (g : Nat) (a b c d e f : Int) : Prop :=
  g < w.heap.size ∧ w.cell? ⟨g, 0, none⟩ = some (.int .u8 a) ∧ w.cell? ⟨g, 1, none⟩ = some (.int .u8 b) ∧ w.cell? ⟨g, 2, none⟩ = some (.int .u8 c) ∧
    w.cell? ⟨g, 3, none⟩ = some (.int .u8 d) ∧ w.cell? ⟨g, 4, none⟩ = some (.int .u8 e) ∧ w.cell? ⟨g, 5, none⟩ = some (.int .u8 f)
theorem Sp.below {w w' : World} {g B : Nat} {a b c d e f : Int} (h : Sp w g a b c d e f) (hb : Below B w w') (hg : g < B) : Sp w' g a b c d e f := by
  obtain ⟨h0, h1, h2, h3, h4, h5, h6⟩ := h
  refine ⟨Nat.lt_of_lt_of_le h0 hb.size, ?_, ?_, ?_, ?_, ?_, ?_⟩ <;> (rw [hb.cell (by exact hg)]; assumption)
def lo3 (a c e : Int) (j : Nat) : Int := if j = 0 then a else if j = 1 then c else e
theorem Sp.in_ {w : World} {g : Nat} {a b c d e f : Int} (h : Sp w g a b c d e f) (x : Int) (n cap : Nat) (hn : n ≤ 3) :
    Calls Tryz.prog 85 #[.int .u8 x, .slice (some ⟨g, 0, none⟩) n cap] w fun e' w' => e' = .returned (.bool (inB (lo3 a c e) (lo3 b d f) x n)) ∧ Below w.heap.size w w' := by
  obtain ⟨h0, h1, h2, h3, h4, h5, h6⟩ := h
  refine in_any w x g n cap _ _ h0 hn (fun j hj => ?_) (fun j hj => ?_)
  · rcases j with _ | _ | _ | j
    · exact h1
    · exact h3
    · exact h5
    · omega
  · rcases j with _ | _ | _ | j
    · exact h2
    · exact h4
    · exact h6
    · omega
theorem Sp.new (w : World) (t : TypeId) (a b c d e f : Int) : Sp (w.alloc (.cells #[.int .u8 a, .int .u8 b, .int .u8 c, .int .u8 d, .int .u8 e, .int .u8 f] t)) w.heap.size a b c d e f := by
  refine ⟨by simp, ?_, ?_, ?_, ?_, ?_, ?_⟩ <;> (rw [World.cell?_alloc_new]; rfl)

theorem spelled_short {a b c d e f : Int} {s : ByteArray} (h : (s.size : Int) < 1) : spelledB a b c d e f s.data.toList = false := by
  have : s.data.toList.length = s.size := by simp
  unfold spelledB
  rw [decide_eq_false (by omega : ¬ 1 ≤ s.data.toList.length)]
  rfl
theorem spelled_long {a b c d e f : Int} {s : ByteArray} (h : 16 < (s.size : Int)) : spelledB a b c d e f s.data.toList = false := by
  have : s.data.toList.length = s.size := by simp
  unfold spelledB
  rw [decide_eq_false (by omega : ¬ s.data.toList.length ≤ 16), Bool.and_false]
  rfl
theorem region_tail {P : Program} {id : Nat} {Q : Exit → Act → World → Prop} {a : Act} {w : World} {l : List Oper} (n : Nat) (hm : P.follows .mixedOrders = true) (hB : Region.lexTailB .any l.toArray n = true)
    (h : wpStill P l.toArray w.drew (fun a' => wpList P l.toArray Q (l.drop n) a' w.drew) (l.take n) a) : (Code.region id l.toArray true).wp P Q a w :=
  wp_region_still_tail n hm hB h

set_option maxHeartbeats 1000000 in
set_option maxRecDepth 100000 in
theorem spelled_any (w : World) (s : ByteArray) (a b c d e f : Int) (hs : s.size ≤ 9223372036854775807) :
    Calls Tryz.prog 63 #[.string s, .agg #[.int .u8 a, .int .u8 b, .int .u8 c, .int .u8 d, .int .u8 e, .int .u8 f]] w fun en w' => en = .returned (.bool (spelledB a b c d e f s.data.toList)) ∧ Below w.heap.size w w' := by
  by_cases h1 : (s.size : Int) < 1
  · go_enter Tryz.func63, Tryz.ntmps63
    go_wp2
    go_quiet (fail)
    go_wp2
    go_ret
    exact ⟨ret_bool (spelled_short h1).symm, below_drewN ((Below.refl _ _).alloc (Nat.le_refl _) _) _⟩
  · have d1 : decide ((s.size : Int) < 1) = false := by simpa using h1
    by_cases h2 : (16 : Int) < (s.size : Int)
    · go_enter Tryz.func63, Tryz.ntmps63
      go_wp2
      go_quiet (fail)
      go_wp2
      go_ret
      exact ⟨ret_bool (spelled_long h2).symm, below_drewN ((Below.refl _ _).alloc (Nat.le_refl _) _) _⟩
    · have d2 : decide ((16 : Int) < (s.size : Int)) = false := by simpa using h2
      have hp : 0 < s.size := by omega
      have hz : (0 : Int) < (s.size : Int) := by omega
      clear h1 h2
      go_enter Tryz.func63, Tryz.ntmps63
      go_wp2
      have hsp : Sp (w.alloc (.cells #[.int .u8 a, .int .u8 b, .int .u8 c, .int .u8 d, .int .u8 e, .int .u8 f] 85)).drew w.heap.size a b c d e f := Sp.new w 85 a b c d e f
      have hbl : Below w.heap.size w (w.alloc (.cells #[.int .u8 a, .int .u8 b, .int .u8 c, .int .u8 d, .int .u8 e, .int .u8 f] 85)).drew := ((Below.refl _ _).alloc (Nat.le_refl _) _).drew
      have HS := Lib.hid (And.intro hsp hbl)
      clear hsp hbl
      refine region_tail 12 (by kernel_rfl) (by kernel_rfl) ?_
      generalize (w.alloc (.cells #[.int .u8 a, .int .u8 b, .int .u8 c, .int .u8 d, .int .u8 e, .int .u8 f] 85)).drew = w1 at HS
      simp only [List.take_succ_cons, List.take_zero, List.drop_succ_cons, List.drop_zero]
      repeat still_step
      refine wpStill_nil ?_
      go_wp2_with fail
      refine (HS.out.1.in_ _ 1 3 (by omega)).mono ?_
      rintro en w2 ⟨rfl, hb2⟩
      have HS2 := Lib.hid (And.intro (HS.out.1.below hb2 HS.out.1.1) (HS.out.2.trans (hb2.mono HS.out.2.size)))
      clear hb2 HS
      have hin : inB (lo3 a c e) (lo3 b d f) (bInt s[0]) 1 = (decide (a ≤ bInt s[0]) && decide (bInt s[0] ≤ b)) := by simp [inB, lo3]
      by_cases hfirst : inB (lo3 a c e) (lo3 b d f) (↑s[0].toNat) 1 = true
      · have hfi : spelledB a b c d e f s.data.toList = s.data.toList.all (fun x => inB (lo3 a c e) (lo3 b d f) (bInt x) 3) := by
          unfold spelledB
          rw [head_of s hp, ← hin, show inB (lo3 a c e) (lo3 b d f) (bInt s[0]) 1 = true from hfirst]
          have hl : s.data.toList.length = s.size := by simp
          have e1 := of_decide_eq_false d1
          have e2 := of_decide_eq_false d2
          rw [decide_eq_true (by omega : 1 ≤ s.data.toList.length), decide_eq_true (by omega : s.data.toList.length ≤ 16)]
          simp [inB, lo3]
        have HF := Lib.hid hfi
        clear hfi hin
        go_wp2_with fail
        go_loopw [5] (fun i wr => ∃ k : Nat, k ≤ s.size ∧ i = .int .i64 k ∧ Hid ((s.data.toList.take k).all (fun x => inB (lo3 a c e) (lo3 b d f) (bInt x) 3) = true) ∧ Hid (Sp wr w.heap.size a b c d e f ∧ Below w.heap.size w wr)) (fun i _ => s.size - (intOf i).toNat)
        case atStart => exact ⟨0, Nat.zero_le _, rfl, by simp [Hid], HS2⟩
        case round =>
          obtain ⟨k, hk, rfl, HA, HW⟩ := hrel
          clear HS2
          by_cases hlt : k < s.size
          · go_wp2_with fail
            have HW' : Hid (Sp wr.drew w.heap.size a b c d e f ∧ Below w.heap.size w wr.drew) := ⟨HW.out.1, HW.out.2.drew⟩
            clear HW
            refine region_tail 4 (by kernel_rfl) (by kernel_rfl) ?_
            generalize wr.drew = w1 at HW'
            simp only [List.take_succ_cons, List.take_zero, List.drop_succ_cons, List.drop_zero]
            repeat still_step
            refine wpStill_nil ?_
            go_wp2_with fail
            refine (HW'.out.1.in_ _ 3 3 (by omega)).mono ?_
            rintro en w2 ⟨rfl, hb2⟩
            have HS2 := Lib.hid (And.intro (HW'.out.1.below hb2 HW'.out.1.1) (HW'.out.2.trans (hb2.mono HW'.out.2.size)))
            clear hb2 HW'
            by_cases hck : inB (lo3 a c e) (lo3 b d f) (↑s[k].toNat) 3 = true
            · go_wp2_with fail
              go_roundw
              case rel => exact ⟨k + 1, by omega, by go_num, by unfold Hid; rw [all_snoc _ s k hlt, HA.out]; exact hck, HS2⟩
              case measure => simp [intOf]; omega
            · have hcf : inB (lo3 a c e) (lo3 b d f) (↑s[k].toNat) 3 = false := by simpa using hck
              clear hck
              go_wp2_with fail
              go_ret
              exact ⟨ret_bool (by rw [HF.out, all_no _ s k hlt hcf]), HS2.out.2⟩
          · go_wp2_with fail
            go_ret
            obtain rfl : k = s.size := by omega
            exact ⟨ret_bool (by rw [HF.out, ← HA.out, take_full]), HW.out.2⟩
      · have hfirst' : inB (lo3 a c e) (lo3 b d f) (↑s[0].toNat) 1 = false := by simpa using hfirst
        have hfi : spelledB a b c d e f s.data.toList = false := by
          unfold spelledB
          rw [head_of s hp, ← hin, show inB (lo3 a c e) (lo3 b d f) (bInt s[0]) 1 = false from hfirst']
          simp
        have HF := Lib.hid hfi
        clear hfi hin hfirst
        go_wp2_with fail
        go_ret
        exact ⟨ret_bool HF.out.symm, HS2.out.2⟩

end
/- The walks of the words: term.Name, term.Variable, term.Number, lexer.Word, and the reference's Word, Name, Number, Variable, IsNumber. -/
section
open Go Go.RowKit

set_option maxHeartbeats 400000 in
theorem rWord_any (w : World) (s : ByteArray) : Calls Tryz.prog 163 #[.string s] w fun e w' => e = .returned (.bool (wordF s.data.toList)) ∧ w = w' := by
  go_enter Tryz.func163, Tryz.ntmps163
  go_wp2
  all_goals go_ret
  all_goals refine ⟨ret_bool ?_, rfl⟩
  all_goals simp_all [wordF, ByteArray.toList_eq]

theorem nameF_eq (l : List UInt8) : nameF l = (spelledB 97 122 48 57 45 45 l && !wordF l) := by
  unfold nameF spelledB
  congr 1
  congr 1
  congr 1
  funext x
  rw [Bool.eq_iff_iff]
  simp [nameCh, lowerB, digitB]
  omega
theorem varF_eq (l : List UInt8) : varF l = spelledB 65 90 97 122 48 57 l := by
  unfold varF spelledB
  congr 1
  congr 1
  funext x
  rw [Bool.eq_iff_iff]
  simp [varCh, lowerB, digitB, upperB]
  omega

set_option maxHeartbeats 400000 in
theorem name_any (w : World) (s : ByteArray) (hs : s.size ≤ 9223372036854775807) : Calls Tryz.prog 39 #[.string s] w fun e w' => e = .returned (.bool (nameF s.data.toList)) ∧ Below w.heap.size w w' := by
  rw [nameF_eq]
  have hc := spelled_any w s 97 122 48 57 45 45 hs
  cases hsp : spelledB 97 122 48 57 45 45 s.data.toList
  all_goals
    rw [hsp] at hc
    have HC := Lib.hid hc
    clear hc hsp
    go_enter Tryz.func39, Tryz.ntmps39
    go_wp2_with fail
    refine HC.out.mono ?_
    rintro e w1 ⟨rfl, hb⟩
    go_wp2_with fail
    all_goals go_ret
    all_goals refine ⟨ret_bool ?_, hb⟩
    all_goals simp_all [wordF, ByteArray.toList_eq]

set_option maxHeartbeats 400000 in
theorem variable_any (w : World) (s : ByteArray) (hs : s.size ≤ 9223372036854775807) : Calls Tryz.prog 111 #[.string s] w fun e w' => e = .returned (.bool (varF s.data.toList)) ∧ Below w.heap.size w w' := by
  rw [varF_eq]
  go_enter Tryz.func111, Tryz.ntmps111
  go_wp2_with fail
  refine (spelled_any w s 65 90 97 122 48 57 hs).mono ?_
  rintro e w1 ⟨rfl, hb⟩
  go_wp2_with fail
  go_ret
  exact ⟨rfl, hb⟩

theorem numF_short {s : ByteArray} (h : (s.size : Int) < 1) : numF s.data.toList = false := by
  have : s.data.toList.length = s.size := by simp
  unfold numF
  rw [decide_eq_false (by omega : ¬ 1 ≤ s.data.toList.length)]
  rfl
theorem numF_long {s : ByteArray} (h : 4 < (s.size : Int)) : numF s.data.toList = false := by
  have : s.data.toList.length = s.size := by simp
  unfold numF
  rw [decide_eq_false (by omega : ¬ s.data.toList.length ≤ 4), Bool.and_false]
  rfl
theorem numF_zero {s : ByteArray} (h : 1 < s.size) (h0 : bInt (s[0]'(by omega)) = 48) : numF s.data.toList = false := by
  have : s.data.toList.length = s.size := by simp
  unfold numF
  rw [head_of s (by omega), h0, decide_eq_true (by omega : 1 < s.data.toList.length)]
  simp
theorem numF_all {s : ByteArray} (h1 : 1 ≤ s.size) (h4 : s.size ≤ 4) (h0 : s.size = 1 ∨ bInt (s[0]'(by omega)) ≠ 48) : numF s.data.toList = s.data.toList.all (fun c => digitB (bInt c)) := by
  have : s.data.toList.length = s.size := by simp
  unfold numF
  rw [head_of s (by omega), decide_eq_true (by omega : 1 ≤ s.data.toList.length), decide_eq_true (by omega : s.data.toList.length ≤ 4)]
  rcases h0 with h0 | h0
  · rw [decide_eq_false (by omega : ¬ 1 < s.data.toList.length)]
    simp
  · rw [show (bInt s[0] == 48) = false from by simpa using h0]
    simp
theorem valF_snoc (l : List UInt8) (c : UInt8) : valF (l ++ [c]) = 10 * valF l + (bInt c - 48) := by simp [valF]
theorem valF_bd : ∀ (l : List UInt8), l.all (fun c => digitB (bInt c)) = true → 0 ≤ valF l ∧ valF l < 10 ^ l.length := by
  intro l
  induction hn : l.length generalizing l with
  | zero =>
    intro _
    have : l = [] := List.eq_nil_of_length_eq_zero hn
    subst this
    simp [valF]
  | succ n ih =>
    intro h
    obtain ⟨l', c, rfl⟩ : ∃ l' c, l = l' ++ [c] := ⟨l.dropLast, l.getLast (by intro e; subst e; simp at hn), (List.dropLast_concat_getLast _).symm⟩
    have hl : l'.length = n := by simpa using hn
    simp only [List.all_append, List.all_cons, List.all_nil, Bool.and_true, Bool.and_eq_true, digitB, decide_eq_true_eq] at h
    have := ih l' hl (by simpa [digitB] using h.1)
    rw [valF_snoc, Int.pow_succ]
    omega
/-- what Number gives -/
def numV (l : List UInt8) : Int := if numF l then valF l else 0

theorem numV_no {l : List UInt8} (h : numF l = false) : numV l = 0 := by unfold numV; rw [h]; rfl
theorem valF_le {s : ByteArray} {k : Nat} (hk : k ≤ s.size) (h4 : s.size ≤ 4) (h : (s.data.toList.take k).all (fun c => digitB (bInt c)) = true) : 0 ≤ valF (s.data.toList.take k) ∧ valF (s.data.toList.take k) ≤ 9999 := by
  have h1 := valF_bd _ h
  have hl : (s.data.toList.take k).length ≤ 4 := by simp; omega
  have h2 : (10 : Nat) ^ (s.data.toList.take k).length ≤ 10 ^ 4 := Nat.pow_le_pow_right (by omega) hl
  have h3 : ((10 : Int) ^ (s.data.toList.take k).length) = ((10 ^ (s.data.toList.take k).length : Nat) : Int) := by simp
  omega
theorem valF_lt {s : ByteArray} {k : Nat} (hk : k < s.size) (h4 : s.size ≤ 4) (h : (s.data.toList.take k).all (fun c => digitB (bInt c)) = true) : 0 ≤ valF (s.data.toList.take k) ∧ valF (s.data.toList.take k) ≤ 999 := by
  have h1 := valF_bd _ h
  have hl : (s.data.toList.take k).length ≤ 3 := by simp; omega
  have h2 : (10 : Nat) ^ (s.data.toList.take k).length ≤ 10 ^ 3 := Nat.pow_le_pow_right (by omega) hl
  have h3 : ((10 : Int) ^ (s.data.toList.take k).length) = ((10 ^ (s.data.toList.take k).length : Nat) : Int) := by simp
  omega

theorem ret_num {a b : Int} {c d : Bool} (h : a = b) (h' : c = d) : Ending.returned (.tuple #[.int .i64 a, .bool c]) = .returned (.tuple #[.int .i64 b, .bool d]) := by rw [h, h']

set_option maxHeartbeats 1000000 in
theorem number_loop (w : World) (s : ByteArray) (h1 : 1 ≤ s.size) (h4 : s.size ≤ 4) (h0 : s.size = 1 ∨ bInt (s[0]'(by omega)) ≠ 48) :
    Calls Tryz.prog 136 #[.string s] w fun e w' => e = .returned (.tuple #[.int .i64 (numV s.data.toList), .bool (numF s.data.toList)]) ∧ w = w' := by
  have hall := Lib.hid (numF_all h1 h4 h0)
  have hl1 : decide ((s.size : Int) < 1) = false := by simp; omega
  have hl4 : decide ((4 : Int) < (s.size : Int)) = false := by simp; omega
  have hp : 0 < s.size := by omega
  have hz : (∃ b, (((s[0]'hp).toNat : Int) == 48) = b ∧ (b = true → s.size ≤ 1)) := ⟨_, rfl, fun hb => by
    rcases h0 with h0 | h0
    · omega
    · exact absurd (beq_iff_eq.1 hb) h0⟩
  clear h0
  obtain ⟨b, hz, hone⟩ := hz
  cases b
  all_goals
    first
    | (have hone' : decide ((1 : Int) < (s.size : Int)) = false := by simp; have := hone rfl; omega)
      clear hone
    | clear hone
    go_enter Tryz.func136, Tryz.ntmps136
    go_wp2_with fail
    go_loop [4, 5] (fun n i => ∃ k : Nat, k ≤ s.size ∧ i = .int .i64 k ∧ n = .int .i64 (valF (s.data.toList.take k)) ∧ Hid ((s.data.toList.take k).all (fun c => digitB (bInt c)) = true)) (fun _ i => s.size - (intOf i).toNat)
    case atStart => exact ⟨0, Nat.zero_le _, rfl, rfl, rfl⟩
    case round =>
      obtain ⟨k, hk, rfl, rfl, HA⟩ := hrel
      clear hz
      by_cases hlt : k < s.size
      · have hv := valF_lt hlt h4 HA.out
        have HS := Lib.hid (valF_snoc (s.data.toList.take k) s[k])
        rw [← take_snoc s k hlt] at HS
        by_cases hd : digitB (bInt s[k]) = true
        · have hd1 : (48 : Int) ≤ ((s[k]).toNat : Int) ∧ ((s[k]).toNat : Int) ≤ 57 := (digitB_iff _).1 hd
          have ⟨hd2, hd3⟩ := hd1
          have HD := Lib.hid hd
          clear hd hd1
          go_wp2_with fail
          go_round
          case rel => exact ⟨k + 1, by omega, by go_num, by rw [HS.out]; unfold bInt; go_num, by unfold Hid; rw [all_snoc _ s k hlt, HA.out, HD.out]; rfl⟩
          case measure => simp [intOf]; omega
        · have hno : numF s.data.toList = false := by rw [hall.out]; exact all_no _ s k hlt (by simpa using hd)
          have HN := Lib.hid hno
          have hd1 : ((s[k]).toNat : Int) < 48 ∨ (57 : Int) < ((s[k]).toNat : Int) := digitB_no hd
          clear hd hno
          rcases hd1 with hd1 | hd1
          all_goals
            go_wp2_with fail
            go_ret2
            exact ⟨ret_num (numV_no HN.out).symm HN.out.symm, rfl⟩
      · have hks : s.size = k := by omega
        have hv := valF_le hk h4 HA.out
        have hfin : valF (s.data.toList.take k) = numV s.data.toList ∧ numF s.data.toList = true := by
          rw [← hks] at HA ⊢
          have := HA.out
          rw [take_full] at this ⊢
          have hn : numF s.data.toList = true := by rw [hall.out]; exact this
          unfold numV
          rw [hn]
          exact ⟨rfl, rfl⟩
        have HF := Lib.hid hfin
        clear hfin hks
        go_wp2_with fail
        go_ret2
        exact ⟨ret_num HF.out.1 HF.out.2.symm, rfl⟩

set_option maxHeartbeats 400000 in
theorem number_any (w : World) (s : ByteArray) :
    Calls Tryz.prog 136 #[.string s] w fun e w' => e = .returned (.tuple #[.int .i64 (numV s.data.toList), .bool (numF s.data.toList)]) ∧ w = w' := by
  by_cases h1 : (s.size : Int) < 1
  · go_enter Tryz.func136, Tryz.ntmps136
    go_wp2_with fail
    go_ret2
    exact ⟨ret_num (numV_no (numF_short h1)).symm (numF_short h1).symm, rfl⟩
  · by_cases h4 : (4 : Int) < (s.size : Int)
    · go_enter Tryz.func136, Tryz.ntmps136
      go_wp2_with fail
      go_ret2
      exact ⟨ret_num (numV_no (numF_long h4)).symm (numF_long h4).symm, rfl⟩
    · by_cases h0 : s.size = 1 ∨ bInt (s[0]'(by omega)) ≠ 48
      · exact number_loop w s (by omega) (by omega) h0
      · have h01 : (1 : Int) < (s.size : Int) := by omega
        have hp : 0 < s.size := by omega
        have h00 : bInt (s[0]'hp) = 48 := by
          rcases Decidable.em (bInt (s[0]'hp) = 48) with h | h
          · exact h
          · exact absurd (.inr h) h0
        have HN := Lib.hid (numF_zero (s := s) (by omega) h00)
        have hz : (((s[0]'hp).toNat : Int) == 48) = true := by simpa [bInt] using h00
        clear h00 h0
        go_enter Tryz.func136, Tryz.ntmps136
        go_wp2_with fail
        go_ret2
        exact ⟨ret_num (numV_no HN.out).symm HN.out.symm, rfl⟩

end
end Go.Proofs.YtmplpbdldcokjaaGreatDoor
