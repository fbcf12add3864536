/- The walk of message.Decode. -/
import Derived.Test.YtmplpbdldcokjaaGreatDoorQo
import Derived.Deep.CutBlock
import Derived.Deep.DeepCutAuto
import Derived.Deep.CutRange
namespace Go.Proofs.YtmplpbdldcokjaaGreatDoor
open Go Go.RowKit Go.Shelf
set_option linter.unusedSimpArgs false
set_option linter.unusedVariables false

set_option maxHeartbeats 4000000 in
theorem set_nine {w : World} {b : Nat} {T : TypeId} (h : w.heap[b]? = some (.cells zMsg T (0, 0))) (v0 v1 v2 v3 v4 v5 v6 v7 v8 : Value) :
    (((((((((w.setCell ⟨b, 0, none⟩ v0).setCell ⟨b, 1, none⟩ v1).setCell ⟨b, 2, none⟩ v2).setCell ⟨b, 3, none⟩ v3).setCell ⟨b, 4, none⟩ v4).setCell ⟨b, 5, none⟩ v5).setCell ⟨b, 6, none⟩ v6).setCell ⟨b, 7, none⟩ v7).setCell ⟨b, 8, none⟩ v8).heap[b]? = some (.cells #[v0, v1, v2, v3, v4, v5, v6, v7, v8] T (0, 0)) ∧
    w.grownBy (((((((((w.setCell ⟨b, 0, none⟩ v0).setCell ⟨b, 1, none⟩ v1).setCell ⟨b, 2, none⟩ v2).setCell ⟨b, 3, none⟩ v3).setCell ⟨b, 4, none⟩ v4).setCell ⟨b, 5, none⟩ v5).setCell ⟨b, 6, none⟩ v6).setCell ⟨b, 7, none⟩ v7).setCell ⟨b, 8, none⟩ v8) (some b) := by
  obtain ⟨a0, b0⟩ := set_row h 0 v0
  obtain ⟨a1, b1⟩ := set_row a0 1 v1
  obtain ⟨a2, b2⟩ := set_row a1 2 v2
  obtain ⟨a3, b3⟩ := set_row a2 3 v3
  obtain ⟨a4, b4⟩ := set_row a3 4 v4
  obtain ⟨a5, b5⟩ := set_row a4 5 v5
  obtain ⟨a6, b6⟩ := set_row a5 6 v6
  obtain ⟨a7, b7⟩ := set_row a6 7 v7
  obtain ⟨a8, b8⟩ := set_row a7 8 v8
  have e : ((((((((zMsg.setIfInBounds 0 v0).setIfInBounds 1 v1).setIfInBounds 2 v2).setIfInBounds 3 v3).setIfInBounds 4 v4).setIfInBounds 5 v5).setIfInBounds 6 v6).setIfInBounds 7 v7).setIfInBounds 8 v8 = #[v0, v1, v2, v3, v4, v5, v6, v7, v8] := by simp
  rw [e] at a8
  have c1 := grown_trans b0 b1
  have c2 := grown_trans c1 b2
  have c3 := grown_trans c2 b3
  have c4 := grown_trans c3 b4
  have c5 := grown_trans c4 b5
  have c6 := grown_trans c5 b6
  have c7 := grown_trans c6 b7
  exact ⟨a8, grown_trans c7 b8⟩
set_option maxHeartbeats 32000000 in
set_option maxRecDepth 100000 in
theorem decode_any (w : World) (s : List UInt8) (hs : s.length ≤ 4000) (hm : Mw w) : Calls Tryz.prog 11 #[.string (bs s)] w (DecP w (decP s)) := by
  have HB1 := Lib.hid (one_box w (.cells zMsg 27))
  have hmf : ∀ (fn : Fn) (first cap : Array Value) (w : World), (Instr.makeFunc fn first cap).run Tryz.prog w = .ok (.func fn first cap) w := fun _ _ _ _ => rfl
  have CS := Lib.hid (split_any (w.alloc (.cells zMsg 27)) s [32] (by simp) (by omega) (hm.below HB1.out.1) (wordsF s) (split_words s))
  rw [show bs [32] = ⟨#[32]⟩ from rfl] at CS
  have HSZ : Hid ((w.alloc (.cells zMsg 27)).heap.size = w.heap.size + 1) := by simp [Hid]
  have HL : Hid ((∀ x ∈ (wordsF s).tail, x.length ≤ 4000) ∧ ∀ x ∈ (wordsF s).tail, x.length ≤ 100000) := by
    have h := (words_le s).2
    exact ⟨fun x hx => Nat.le_trans (h x (List.mem_of_mem_tail hx)) hs, fun x hx => by have := h x (List.mem_of_mem_tail hx); omega⟩
  have HMW := Lib.hid (fun (y : World) (o' : Nat) (l' : List (List UInt8)) (bad' : Bool) (C' : Array Value) (hy : DS w y w.heap.size o' l' bad' C') => hm.below hy.be)
  have hsz9 : 9 ≤ w.heap.size := hm.sz
  have HMM := Lib.hid hm
  have HNE : Hid ((wordsF s).isEmpty = false) := by
    have := wordsF_ne s
    cases h : wordsF s with
    | nil => exact absurd h this
    | cons a r => rfl
  have HDS := Lib.hid (fun (w2 : World) (h2 : w2 = (w.alloc (.cells zMsg 27)).alloc (.cells ((wordsF s).map fun x => Value.string (bs x)).toArray 9)) => ds_start w s hs h2)
  have HDP : Hid (decP s = (readP ((wordsF s).headD []) (wordsF s).tail).bind (closeF s)) := rfl
  clear hm hs
  go_enter Tryz.func11, Tryz.ntmps11
  go_wp2_with fail
  refine CS.out.mono ?_
  rintro e w2 ⟨rfl, hw2⟩
  clear CS
  obtain ⟨hz2, hd⟩ := HDS.out w2 hw2
  have HD := Lib.hid hd
  clear hd hw2 HDS
  rw [HSZ.out]
  generalize hn : (wordsF s).length = nw at *
  clear hn
  go_upto_region 4 with fail
  simp only [Nat.add_assoc, Nat.reduceAdd]
  generalize ((w2.alloc (.cells #[.slice (some ⟨w.heap.size + 1, 0, none⟩) nw nw, .bool false] 47)).alloc (.cells #[.pointer (some ⟨w.heap.size + 2, 0, none⟩)] 43)).alloc (.cells zMsg 27) = w3 at *
  clear hz2
  have CN := Lib.hid (next_any w3 (w.heap.size + 2) (w.heap.size + 1) _ (wordsF s) _ HD.out.ws)
  generalize hx0 : bs ((wordsF s).headD []) = x0 at CN
  have Hx0 := Lib.hid hx0
  clear hx0
  have p0 : w3.cell? ⟨w.heap.size + 3, 0, none⟩ = some (.pointer (some ⟨w.heap.size + 2, 0, none⟩)) := (cell_blk HD.out.pt 0).trans rfl
  go_wp2_with fail
  refine CN.out.mono ?_
  clear CN
  rintro e w4 ⟨rfl, o1, h1, g1⟩
  replace HD := Lib.hid (HD.out.call h1 g1)
  clear h1 g1 p0
  rw [HNE.out] at HD
  have hx0 : x0.toList = (wordsF s).headD [] := by rw [← Hx0.out, ByteArray.toList_eq, toList_bs]
  generalize (wordsF s).headD [] = kk at *
  generalize (wordsF s).tail = l at *
  have HX0 := Lib.hid hx0
  clear hx0
  go_upto_block 0 with fail
  go_cut [] from 16 to 60 (fun wx => JP w wx w.heap.size (readP kk l))
  case first =>
    by_cases h0 : kk = wStart
    focus
      subst h0
      have e0 : (x0.toList == [115, 116, 97, 114, 116]) = true := by rw [HX0.out]; rfl
      have m0 : w4.cell? ⟨w.heap.size + 4, 0, none⟩ = some (.int .i64 0) := (cell_blk HD.out.ms 0).trans rfl
      have f0 : w4.frozen? ⟨w.heap.size + 4, 0, none⟩ = false := frozen_blk HD.out.ms 0
      go_upto_region 7 with fail
      clear m0 f0
      replace HD := Lib.hid (HD.out.set 0 (.int .i64 1))
      generalize w4.setCell ⟨w.heap.size + 4, 0, none⟩ (.int .i64 1) = w11 at *
      have CN := Lib.hid (next_any w11 (w.heap.size + 2) (w.heap.size + 1) _ (l) _ HD.out.ws)
      generalize hy1 : bs ((l).headD []) = y1 at CN
      have Hy1 := Lib.hid hy1
      clear hy1
      have p0 : w11.cell? ⟨w.heap.size + 3, 0, none⟩ = some (.pointer (some ⟨w.heap.size + 2, 0, none⟩)) := (cell_blk HD.out.pt 0).trans rfl
      go_wp2_with fail
      refine CN.out.mono ?_
      clear CN
      rintro e w12 ⟨rfl, o1, h1, g1⟩
      replace HD := Lib.hid (HD.out.call h1 g1)
      clear h1 g1 p0
      have m0 : w12.cell? ⟨w.heap.size + 4, 1, none⟩ = some (.string ⟨#[]⟩) := (cell_blk HD.out.ms 1).trans rfl
      have f0 : w12.frozen? ⟨w.heap.size + 4, 1, none⟩ = false := frozen_blk HD.out.ms 1
      go_upto_region 8 with fail
      clear m0 f0
      replace HD := Lib.hid (HD.out.set 1 (.string y1))
      generalize w12.setCell ⟨w.heap.size + 4, 1, none⟩ (.string y1) = w13 at *
      have CN := Lib.hid (next_any w13 (w.heap.size + 2) (w.heap.size + 1) _ (l.tail) _ HD.out.ws)
      generalize hy2 : bs ((l.tail).headD []) = y2 at CN
      have Hy2 := Lib.hid hy2
      clear hy2
      have p0 : w13.cell? ⟨w.heap.size + 3, 0, none⟩ = some (.pointer (some ⟨w.heap.size + 2, 0, none⟩)) := (cell_blk HD.out.pt 0).trans rfl
      go_wp2_with fail
      refine CN.out.mono ?_
      clear CN
      rintro e w14 ⟨rfl, o1, h1, g1⟩
      replace HD := Lib.hid (HD.out.call h1 g1)
      clear h1 g1 p0
      have m0 : w14.cell? ⟨w.heap.size + 4, 2, none⟩ = some (.string ⟨#[]⟩) := (cell_blk HD.out.ms 2).trans rfl
      have f0 : w14.frozen? ⟨w.heap.size + 4, 2, none⟩ = false := frozen_blk HD.out.ms 2
      go_upto_region 9 with fail
      clear m0 f0
      replace HD := Lib.hid (HD.out.set 2 (.string y2))
      generalize w14.setCell ⟨w.heap.size + 4, 2, none⟩ (.string y2) = w15 at *
      have CN := Lib.hid (wnumber_any w15 (w.heap.size + 2) (w.heap.size + 1) _ (l.tail.tail) _ HD.out.ws (by omega) (HMW.out _ _ _ _ _ HD.out) (head_le (tail_le (tail_le HL.out.2))))
      have p0 : w15.cell? ⟨w.heap.size + 3, 0, none⟩ = some (.pointer (some ⟨w.heap.size + 2, 0, none⟩)) := (cell_blk HD.out.pt 0).trans rfl
      go_wp2_with fail
      refine CN.out.mono ?_
      clear CN
      rintro e w16 ⟨n1, hn1, rfl, o1, h1, g1⟩
      have HN1 := Lib.hid hn1
      replace HD := Lib.hid (HD.out.call h1 g1)
      clear h1 g1 p0 hn1
      have m0 : w16.cell? ⟨w.heap.size + 4, 4, none⟩ = some (.int .i64 0) := (cell_blk HD.out.ms 4).trans rfl
      have f0 : w16.frozen? ⟨w.heap.size + 4, 4, none⟩ = false := frozen_blk HD.out.ms 4
      go_upto_region 10 with fail
      clear m0 f0
      replace HD := Lib.hid (HD.out.set 4 (.int .i64 n1))
      generalize w16.setCell ⟨w.heap.size + 4, 4, none⟩ (.int .i64 n1) = w17 at *
      have CN := Lib.hid (wnumber_any w17 (w.heap.size + 2) (w.heap.size + 1) _ (l.tail.tail.tail) _ HD.out.ws (by omega) (HMW.out _ _ _ _ _ HD.out) (head_le (tail_le (tail_le (tail_le HL.out.2)))))
      have p0 : w17.cell? ⟨w.heap.size + 3, 0, none⟩ = some (.pointer (some ⟨w.heap.size + 2, 0, none⟩)) := (cell_blk HD.out.pt 0).trans rfl
      go_wp2_with fail
      refine CN.out.mono ?_
      clear CN
      rintro e w18 ⟨n2, hn2, rfl, o1, h1, g1⟩
      have HN2 := Lib.hid hn2
      replace HD := Lib.hid (HD.out.call h1 g1)
      clear h1 g1 p0 hn2
      have m0 : w18.cell? ⟨w.heap.size + 4, 5, none⟩ = some (.int .i64 0) := (cell_blk HD.out.ms 5).trans rfl
      have f0 : w18.frozen? ⟨w.heap.size + 4, 5, none⟩ = false := frozen_blk HD.out.ms 5
      go_upto_region 11 with fail
      clear m0 f0
      replace HD := Lib.hid (HD.out.set 5 (.int .i64 n2))
      generalize w18.setCell ⟨w.heap.size + 4, 5, none⟩ (.int .i64 n2) = w19 at *
      have CN := Lib.hid (wtext_any w19 (w.heap.size + 2) (w.heap.size + 1) _ (l.tail.tail.tail.tail) _ HD.out.ws (by have := head_le (tail_le (tail_le (tail_le (tail_le HL.out.2)))); omega))
      generalize hx5 : bs ((txO l.tail.tail.tail.tail).getD []) = x5 at CN
      have Hx5 := Lib.hid hx5
      clear hx5
      have p0 : w19.cell? ⟨w.heap.size + 3, 0, none⟩ = some (.pointer (some ⟨w.heap.size + 2, 0, none⟩)) := (cell_blk HD.out.pt 0).trans rfl
      go_wp2_with fail
      refine CN.out.mono ?_
      clear CN
      rintro e w20 ⟨rfl, o1, h1, g1⟩
      replace HD := Lib.hid (HD.out.call h1 g1)
      clear h1 g1 p0
      have m0 : w20.cell? ⟨w.heap.size + 4, 8, none⟩ = some (.string ⟨#[]⟩) := (cell_blk HD.out.ms 8).trans rfl
      have f0 : w20.frozen? ⟨w.heap.size + 4, 8, none⟩ = false := frozen_blk HD.out.ms 8
      go_wp2_with fail
      go_meet
      clear m0 f0
      replace HD := Lib.hid (HD.out.set 8 (.string x5))
      obtain rfl := Hy1.out
      obtain rfl := Hy2.out
      obtain rfl := Hx5.out
      exact ⟨_, _, _, _, HD.out, start_jp HN1.out HN2.out⟩
    by_cases h1 : kk = wPlay
    focus
      subst h1
      have e0 : (x0.toList == [115, 116, 97, 114, 116]) = false := by rw [HX0.out]; rfl
      have e1 : (x0.toList == [112, 108, 97, 121]) = true := by rw [HX0.out]; rfl
      have CL := Lib.hid (listed_any 2 w w4 w.heap.size _ l hsz9 HD.out HMM.out HL.out.2 rfl)
      go_wp2_with fail
      refine CL.out.mono ?_
      rintro e w5 ⟨rfl, hj⟩
      have HJ := Lib.hid hj
      clear hj CL
      go_wp2_with fail
      go_meet
      have e : readP wPlay l = listP 2 l := by unfold readP; rw [if_neg (by decide), if_pos rfl]
      rw [e]
      exact HJ.out
    by_cases h2 : kk = wStop
    focus
      subst h2
      have e0 : (x0.toList == [115, 116, 97, 114, 116]) = false := by rw [HX0.out]; rfl
      have e1 : (x0.toList == [112, 108, 97, 121]) = false := by rw [HX0.out]; rfl
      have e2 : (x0.toList == [115, 116, 111, 112]) = true := by rw [HX0.out]; rfl
      have CL := Lib.hid (listed_any 3 w w4 w.heap.size _ l hsz9 HD.out HMM.out HL.out.2 rfl)
      go_wp2_with fail
      refine CL.out.mono ?_
      rintro e w5 ⟨rfl, hj⟩
      have HJ := Lib.hid hj
      clear hj CL
      go_wp2_with fail
      go_meet
      have e : readP wStop l = listP 3 l := by unfold readP; rw [if_neg (by decide), if_neg (by decide), if_pos rfl]
      rw [e]
      exact HJ.out
    by_cases h3 : kk = wAbort
    focus
      subst h3
      have e0 : (x0.toList == [115, 116, 97, 114, 116]) = false := by rw [HX0.out]; rfl
      have e1 : (x0.toList == [112, 108, 97, 121]) = false := by rw [HX0.out]; rfl
      have e2 : (x0.toList == [115, 116, 111, 112]) = false := by rw [HX0.out]; rfl
      have e3 : (x0.toList == [97, 98, 111, 114, 116]) = true := by rw [HX0.out]; rfl
      have m0 : w4.cell? ⟨w.heap.size + 4, 0, none⟩ = some (.int .i64 0) := (cell_blk HD.out.ms 0).trans rfl
      have f0 : w4.frozen? ⟨w.heap.size + 4, 0, none⟩ = false := frozen_blk HD.out.ms 0
      go_upto_region 18 with fail
      clear m0 f0
      replace HD := Lib.hid (HD.out.set 0 (.int .i64 4))
      generalize w4.setCell ⟨w.heap.size + 4, 0, none⟩ (.int .i64 4) = w11 at *
      have CN := Lib.hid (next_any w11 (w.heap.size + 2) (w.heap.size + 1) _ (l) _ HD.out.ws)
      generalize hy1 : bs ((l).headD []) = y1 at CN
      have Hy1 := Lib.hid hy1
      clear hy1
      have p0 : w11.cell? ⟨w.heap.size + 3, 0, none⟩ = some (.pointer (some ⟨w.heap.size + 2, 0, none⟩)) := (cell_blk HD.out.pt 0).trans rfl
      go_wp2_with fail
      refine CN.out.mono ?_
      clear CN
      rintro e w12 ⟨rfl, o1, h1, g1⟩
      replace HD := Lib.hid (HD.out.call h1 g1)
      clear h1 g1 p0
      have m0 : w12.cell? ⟨w.heap.size + 4, 1, none⟩ = some (.string ⟨#[]⟩) := (cell_blk HD.out.ms 1).trans rfl
      have f0 : w12.frozen? ⟨w.heap.size + 4, 1, none⟩ = false := frozen_blk HD.out.ms 1
      go_wp2_with fail
      go_meet
      clear m0 f0
      replace HD := Lib.hid (HD.out.set 1 (.string y1))
      obtain rfl := Hy1.out
      exact ⟨_, _, _, _, HD.out, abort_jp⟩
    by_cases h4 : kk = wReady
    focus
      subst h4
      have e0 : (x0.toList == [115, 116, 97, 114, 116]) = false := by rw [HX0.out]; rfl
      have e1 : (x0.toList == [112, 108, 97, 121]) = false := by rw [HX0.out]; rfl
      have e2 : (x0.toList == [115, 116, 111, 112]) = false := by rw [HX0.out]; rfl
      have e3 : (x0.toList == [97, 98, 111, 114, 116]) = false := by rw [HX0.out]; rfl
      have e4 : (x0.toList == [114, 101, 97, 100, 121]) = true := by rw [HX0.out]; rfl
      have m0 : w4.cell? ⟨w.heap.size + 4, 0, none⟩ = some (.int .i64 0) := (cell_blk HD.out.ms 0).trans rfl
      have f0 : w4.frozen? ⟨w.heap.size + 4, 0, none⟩ = false := frozen_blk HD.out.ms 0
      go_wp2_with fail
      go_meet
      clear m0 f0
      replace HD := Lib.hid (HD.out.set 0 (.int .i64 5))
      exact ⟨_, _, _, _, HD.out, .inr ⟨rfl, ready_jp⟩⟩
    by_cases h5 : kk = wMove
    focus
      subst h5
      have e0 : (x0.toList == [115, 116, 97, 114, 116]) = false := by rw [HX0.out]; rfl
      have e1 : (x0.toList == [112, 108, 97, 121]) = false := by rw [HX0.out]; rfl
      have e2 : (x0.toList == [115, 116, 111, 112]) = false := by rw [HX0.out]; rfl
      have e3 : (x0.toList == [97, 98, 111, 114, 116]) = false := by rw [HX0.out]; rfl
      have e4 : (x0.toList == [114, 101, 97, 100, 121]) = false := by rw [HX0.out]; rfl
      have e5 : (x0.toList == [109, 111, 118, 101]) = true := by rw [HX0.out]; rfl
      have m0 : w4.cell? ⟨w.heap.size + 4, 0, none⟩ = some (.int .i64 0) := (cell_blk HD.out.ms 0).trans rfl
      have f0 : w4.frozen? ⟨w.heap.size + 4, 0, none⟩ = false := frozen_blk HD.out.ms 0
      go_upto_region 23 with fail
      clear m0 f0
      replace HD := Lib.hid (HD.out.set 0 (.int .i64 6))
      generalize w4.setCell ⟨w.heap.size + 4, 0, none⟩ (.int .i64 6) = w11 at *
      have CN := Lib.hid (wterms_any w11 (w.heap.size + 2) (w.heap.size + 1) _ (l) _ HD.out.ws (by omega) (HMW.out _ _ _ _ _ HD.out) (head_le (HL.out.2)) (fun t ht => txO_le (HL.out.2) ht))
      unfold TWP at CN
      generalize hm1 : (tmO (l)).getD [] = m1 at CN
      have Hm1 := Lib.hid hm1
      clear hm1
      have p0 : w11.cell? ⟨w.heap.size + 3, 0, none⟩ = some (.pointer (some ⟨w.heap.size + 2, 0, none⟩)) := (cell_blk HD.out.pt 0).trans rfl
      go_wp2_with fail
      refine CN.out.mono ?_
      clear CN
      rintro e w12 ⟨A1, cp1, rfl, hs1, o1, h1, g1⟩
      have HS1 := Lib.hid (hs1.keep keeps_tm (P' := fun j => w.heap.size + 4 < j) (fun j hj _ => ⟨Nat.lt_of_lt_of_le HD.out.size hj, rfl⟩) (Nat.le_refl _))
      replace HD := Lib.hid (HD.out.call h1 g1)
      clear h1 g1 hs1 p0
      have m0 : w12.cell? ⟨w.heap.size + 4, 6, none⟩ = some (.slice none 0 0) := (cell_blk HD.out.ms 6).trans rfl
      have f0 : w12.frozen? ⟨w.heap.size + 4, 6, none⟩ = false := frozen_blk HD.out.ms 6
      go_wp2_with fail
      go_meet
      clear m0 f0
      have hset := (set_row HD.out.ms 6 (.slice A1 m1.length cp1)).2
      replace HS1 := Lib.hid (slv_grown HS1.out hset (by omega))
      clear hset
      replace HD := Lib.hid (HD.out.set 6 (.slice A1 m1.length cp1))
      obtain rfl := Hm1.out
      exact ⟨_, _, _, _, HD.out, move_jp HS1.out⟩
    by_cases h6 : kk = wDone
    focus
      subst h6
      have e0 : (x0.toList == [115, 116, 97, 114, 116]) = false := by rw [HX0.out]; rfl
      have e1 : (x0.toList == [112, 108, 97, 121]) = false := by rw [HX0.out]; rfl
      have e2 : (x0.toList == [115, 116, 111, 112]) = false := by rw [HX0.out]; rfl
      have e3 : (x0.toList == [97, 98, 111, 114, 116]) = false := by rw [HX0.out]; rfl
      have e4 : (x0.toList == [114, 101, 97, 100, 121]) = false := by rw [HX0.out]; rfl
      have e5 : (x0.toList == [109, 111, 118, 101]) = false := by rw [HX0.out]; rfl
      have e6 : (x0.toList == [100, 111, 110, 101]) = true := by rw [HX0.out]; rfl
      have m0 : w4.cell? ⟨w.heap.size + 4, 0, none⟩ = some (.int .i64 0) := (cell_blk HD.out.ms 0).trans rfl
      have f0 : w4.frozen? ⟨w.heap.size + 4, 0, none⟩ = false := frozen_blk HD.out.ms 0
      go_wp2_with fail
      go_meet
      clear m0 f0
      replace HD := Lib.hid (HD.out.set 0 (.int .i64 7))
      exact ⟨_, _, _, _, HD.out, .inr ⟨rfl, done_jp⟩⟩
    have e0 : (x0.toList == [115, 116, 97, 114, 116]) = false := by rw [HX0.out]; exact beq_eq_false_iff_ne.2 h0
    have e1 : (x0.toList == [112, 108, 97, 121]) = false := by rw [HX0.out]; exact beq_eq_false_iff_ne.2 h1
    have e2 : (x0.toList == [115, 116, 111, 112]) = false := by rw [HX0.out]; exact beq_eq_false_iff_ne.2 h2
    have e3 : (x0.toList == [97, 98, 111, 114, 116]) = false := by rw [HX0.out]; exact beq_eq_false_iff_ne.2 h3
    have e4 : (x0.toList == [114, 101, 97, 100, 121]) = false := by rw [HX0.out]; exact beq_eq_false_iff_ne.2 h4
    have e5 : (x0.toList == [109, 111, 118, 101]) = false := by rw [HX0.out]; exact beq_eq_false_iff_ne.2 h5
    have e6 : (x0.toList == [100, 111, 110, 101]) = false := by rw [HX0.out]; exact beq_eq_false_iff_ne.2 h6
    go_wp2_with fail
    go_meet
    exact ⟨_, _, _, _, HD.out, .inr ⟨rfl, other_jp h0 h1 h2 h3 h4 h5 h6⟩⟩
  case rest =>
    clear HD Hx0 HX0
    obtain ⟨o5, l5, bad5, C5, hd5, hc5⟩ := hcut
    have HD := Lib.hid hd5
    clear hd5
    have p0 : wc.cell? ⟨w.heap.size + 3, 0, none⟩ = some (.pointer (some ⟨w.heap.size + 2, 0, none⟩)) := (cell_blk HD.out.pt 0).trans rfl
    have b1 : wc.cell? ⟨w.heap.size + 2, 1, none⟩ = some (.bool bad5) := (cell_blk HD.out.ws.blk 1).trans rfl
    rcases hc5 with ⟨rfl, hr⟩ | ⟨rfl, m, hr, hmc⟩
    · have HDN : Hid (decP s = none) := by rw [Hid, HDP.out, hr]; rfl
      clear hr
      have r0 := cell_blk HD.out.res 0
      have g0 := frozen_blk HD.out.res 0
      have r1 := cell_blk HD.out.res 1
      have g1 := frozen_blk HD.out.res 1
      have r2 := cell_blk HD.out.res 2
      have g2 := frozen_blk HD.out.res 2
      have r3 := cell_blk HD.out.res 3
      have g3 := frozen_blk HD.out.res 3
      have r4 := cell_blk HD.out.res 4
      have g4 := frozen_blk HD.out.res 4
      have r5 := cell_blk HD.out.res 5
      have g5 := frozen_blk HD.out.res 5
      have r6 := cell_blk HD.out.res 6
      have g6 := frozen_blk HD.out.res 6
      have r7 := cell_blk HD.out.res 7
      have g7 := frozen_blk HD.out.res 7
      have r8 := cell_blk HD.out.res 8
      have g8 := frozen_blk HD.out.res 8
      go_wp2_with fail
      clear r0 r1 r2 r3 r4 r5 r6 r7 r8 g0 g1 g2 g3 g4 g5 g6 g7 g8
      have HN := Lib.hid (set_nine HD.out.res (.int .i64 0) (.string ⟨#[]⟩) (.string ⟨#[]⟩) (.slice none 0 0) (.int .i64 0) (.int .i64 0) (.slice none 0 0) (.slice none 0 0) (.string ⟨#[]⟩))
      have HBF := Lib.hid (HD.out.be.trans (grown_below HN.out.2 (Nat.le_refl _) (by have := HD.out.size; omega)))
      generalize (((((((((wc.setCell ⟨w.heap.size, 0, none⟩ (.int .i64 0)).setCell ⟨w.heap.size, 1, none⟩ (.string ⟨#[]⟩)).setCell ⟨w.heap.size, 2, none⟩ (.string ⟨#[]⟩)).setCell ⟨w.heap.size, 3, none⟩ (.slice none 0 0)).setCell ⟨w.heap.size, 4, none⟩ (.int .i64 0)).setCell ⟨w.heap.size, 5, none⟩ (.int .i64 0)).setCell ⟨w.heap.size, 6, none⟩ (.slice none 0 0)).setCell ⟨w.heap.size, 7, none⟩ (.slice none 0 0)).setCell ⟨w.heap.size, 8, none⟩ (.string ⟨#[]⟩)) = w9 at *
      have c := cell_blk HN.out.1
      have v0 := c 0
      have v1 := c 1
      have v2 := c 2
      have v3 := c 3
      have v4 := c 4
      have v5 := c 5
      have v6 := c 6
      have v7 := c 7
      have v8 := c 8
      simp at v0 v1 v2 v3 v4 v5 v6 v7 v8
      refine bodyPost_ret (v := .tuple #[.agg zMsg, .int .i64 1]) (by simp [results, Tryz.results11, go_sem, v0, v1, v2, v3, v4, v5, v6, v7, v8]) rfl ?_
      refine ⟨HBF.out, ?_⟩
      rw [HDN.out]
    · have hf := read_fine HL.out.1 hr
      obtain ⟨k0, mat, ⟨nm, ra⟩, sc, pc, mv, pv, tx⟩ := m
      have hra : ra = [] := hf.args
      subst hra
      obtain ⟨A1, c1, A2, c2, hC, _, hs1, hs2⟩ := hmc
      simp only [Tm.name] at hC
      subst hC
      have HDN : Hid (decP s = closeF s ⟨k0, mat, .mk nm [], sc, pc, mv, pv, tx⟩) := by rw [Hid, HDP.out, hr]; rfl
      have n1 : mv.length ≤ 5000 := hf.n1
      have n2 : pv.length ≤ 5000 := hf.n2
      have HS1 := Lib.hid hs1
      have HS2 := Lib.hid hs2
      have hin : MsIn wc (fun j => w.heap.size + 4 < j ∧ j < wc.heap.size) A1 mv A2 pv := ⟨by omega, by omega, fun j hj => hj.2, hs1.keep keeps_tm (fun j hj hl => ⟨⟨hj, hl⟩, rfl⟩) (Nat.le_refl _), fun t ht => tmb_of4 (hf.v1 t ht), hs2.keep keeps_tm (fun j hj hl => ⟨⟨hj, hl⟩, rfl⟩) (Nat.le_refl _), fun t ht => tmb_of4 (hf.v2 t ht)⟩
      have CE := Lib.hid (encode_any wc _ k0 mat nm none 0 [] sc pc A1 c1 mv A2 c2 pv tx (by have : mat.length ≤ 4000 := hf.mat; omega) (by have : nm.length ≤ 4000 := hf.role; omega) hin n1 n2 (HMW.out _ _ _ _ _ HD.out).tb (by have : tx.length ≤ 4000 := hf.text; omega))
      rw [show ([] : List Tm).length = 0 from rfl] at CE
      clear hf hr hs1 hs2 hin n1 n2
      have m0 := cell_blk HD.out.ms 0
      have m1 := cell_blk HD.out.ms 1
      have m2 := cell_blk HD.out.ms 2
      have m3 := cell_blk HD.out.ms 3
      have m4 := cell_blk HD.out.ms 4
      have m5 := cell_blk HD.out.ms 5
      have m6 := cell_blk HD.out.ms 6
      have m7 := cell_blk HD.out.ms 7
      have m8 := cell_blk HD.out.ms 8
      simp at m0 m1 m2 m3 m4 m5 m6 m7 m8
      by_cases hc : checkF ⟨k0, mat, .mk nm [], sc, pc, mv, pv, tx⟩ = 0
      rotate_left
      focus
        have HDE : Hid (decP s = none) := by rw [Hid, HDN.out]; unfold closeF; rw [if_neg (fun h => hc h.1)]
        unfold encV encO at CE
        rw [if_neg hc] at CE
        generalize checkF ⟨k0, mat, .mk nm [], sc, pc, mv, pv, tx⟩ = z at *
        simp only at CE
        have e1 : (z != 0) = true := by simpa using hc
        go_wp2_with fail
        refine CE.out.mono ?_
        rintro e w6 ⟨rfl, hb⟩
        replace HD := Lib.hid (HD.out.keep hb)
        clear hb m0 m1 m2 m3 m4 m5 m6 m7 m8 p0 b1
        have r0 := cell_blk HD.out.res 0
        have g0 := frozen_blk HD.out.res 0
        have r1 := cell_blk HD.out.res 1
        have g1 := frozen_blk HD.out.res 1
        have r2 := cell_blk HD.out.res 2
        have g2 := frozen_blk HD.out.res 2
        have r3 := cell_blk HD.out.res 3
        have g3 := frozen_blk HD.out.res 3
        have r4 := cell_blk HD.out.res 4
        have g4 := frozen_blk HD.out.res 4
        have r5 := cell_blk HD.out.res 5
        have g5 := frozen_blk HD.out.res 5
        have r6 := cell_blk HD.out.res 6
        have g6 := frozen_blk HD.out.res 6
        have r7 := cell_blk HD.out.res 7
        have g7 := frozen_blk HD.out.res 7
        have r8 := cell_blk HD.out.res 8
        have g8 := frozen_blk HD.out.res 8
        go_wp2_with fail
        clear r0 r1 r2 r3 r4 r5 r6 r7 r8 g0 g1 g2 g3 g4 g5 g6 g7 g8
        have HN := Lib.hid (set_nine HD.out.res (.int .i64 0) (.string ⟨#[]⟩) (.string ⟨#[]⟩) (.slice none 0 0) (.int .i64 0) (.int .i64 0) (.slice none 0 0) (.slice none 0 0) (.string ⟨#[]⟩))
        have HBF := Lib.hid (HD.out.be.trans (grown_below HN.out.2 (Nat.le_refl _) (by have := HD.out.size; omega)))
        generalize (((((((((w6.setCell ⟨w.heap.size, 0, none⟩ (.int .i64 0)).setCell ⟨w.heap.size, 1, none⟩ (.string ⟨#[]⟩)).setCell ⟨w.heap.size, 2, none⟩ (.string ⟨#[]⟩)).setCell ⟨w.heap.size, 3, none⟩ (.slice none 0 0)).setCell ⟨w.heap.size, 4, none⟩ (.int .i64 0)).setCell ⟨w.heap.size, 5, none⟩ (.int .i64 0)).setCell ⟨w.heap.size, 6, none⟩ (.slice none 0 0)).setCell ⟨w.heap.size, 7, none⟩ (.slice none 0 0)).setCell ⟨w.heap.size, 8, none⟩ (.string ⟨#[]⟩)) = w9 at *
        have c := cell_blk HN.out.1
        have v0 := c 0
        have v1 := c 1
        have v2 := c 2
        have v3 := c 3
        have v4 := c 4
        have v5 := c 5
        have v6 := c 6
        have v7 := c 7
        have v8 := c 8
        simp at v0 v1 v2 v3 v4 v5 v6 v7 v8
        refine bodyPost_ret (v := .tuple #[.agg zMsg, .int .i64 1]) (by simp [results, Tryz.results11, go_sem, v0, v1, v2, v3, v4, v5, v6, v7, v8]) rfl ?_
        refine ⟨HBF.out, ?_⟩
        rw [HDE.out]
      unfold encV encO at CE
      rw [if_pos hc] at CE
      simp only at CE
      by_cases he : encF ⟨k0, mat, .mk nm [], sc, pc, mv, pv, tx⟩ = s
      rotate_left
      focus
        have HDE : Hid (decP s = none) := by rw [Hid, HDN.out]; unfold closeF; rw [if_neg (fun h => he h.2)]
        generalize hes : bs (encF ⟨k0, mat, .mk nm [], sc, pc, mv, pv, tx⟩) = es at *
        generalize hst : bs s = st at *
        have e1 : (es.toList == st.toList) = false := by rw [← hes, ← hst, ByteArray.toList_eq, ByteArray.toList_eq, toList_bs, toList_bs]; exact beq_eq_false_iff_ne.2 he
        clear hes hst
        go_wp2_with fail
        refine CE.out.mono ?_
        rintro e w6 ⟨rfl, hb⟩
        replace HD := Lib.hid (HD.out.keep hb)
        clear hb m0 m1 m2 m3 m4 m5 m6 m7 m8 p0 b1
        have r0 := cell_blk HD.out.res 0
        have g0 := frozen_blk HD.out.res 0
        have r1 := cell_blk HD.out.res 1
        have g1 := frozen_blk HD.out.res 1
        have r2 := cell_blk HD.out.res 2
        have g2 := frozen_blk HD.out.res 2
        have r3 := cell_blk HD.out.res 3
        have g3 := frozen_blk HD.out.res 3
        have r4 := cell_blk HD.out.res 4
        have g4 := frozen_blk HD.out.res 4
        have r5 := cell_blk HD.out.res 5
        have g5 := frozen_blk HD.out.res 5
        have r6 := cell_blk HD.out.res 6
        have g6 := frozen_blk HD.out.res 6
        have r7 := cell_blk HD.out.res 7
        have g7 := frozen_blk HD.out.res 7
        have r8 := cell_blk HD.out.res 8
        have g8 := frozen_blk HD.out.res 8
        go_wp2_with fail
        clear r0 r1 r2 r3 r4 r5 r6 r7 r8 g0 g1 g2 g3 g4 g5 g6 g7 g8
        have HN := Lib.hid (set_nine HD.out.res (.int .i64 0) (.string ⟨#[]⟩) (.string ⟨#[]⟩) (.slice none 0 0) (.int .i64 0) (.int .i64 0) (.slice none 0 0) (.slice none 0 0) (.string ⟨#[]⟩))
        have HBF := Lib.hid (HD.out.be.trans (grown_below HN.out.2 (Nat.le_refl _) (by have := HD.out.size; omega)))
        generalize (((((((((w6.setCell ⟨w.heap.size, 0, none⟩ (.int .i64 0)).setCell ⟨w.heap.size, 1, none⟩ (.string ⟨#[]⟩)).setCell ⟨w.heap.size, 2, none⟩ (.string ⟨#[]⟩)).setCell ⟨w.heap.size, 3, none⟩ (.slice none 0 0)).setCell ⟨w.heap.size, 4, none⟩ (.int .i64 0)).setCell ⟨w.heap.size, 5, none⟩ (.int .i64 0)).setCell ⟨w.heap.size, 6, none⟩ (.slice none 0 0)).setCell ⟨w.heap.size, 7, none⟩ (.slice none 0 0)).setCell ⟨w.heap.size, 8, none⟩ (.string ⟨#[]⟩)) = w9 at *
        have c := cell_blk HN.out.1
        have v0 := c 0
        have v1 := c 1
        have v2 := c 2
        have v3 := c 3
        have v4 := c 4
        have v5 := c 5
        have v6 := c 6
        have v7 := c 7
        have v8 := c 8
        simp at v0 v1 v2 v3 v4 v5 v6 v7 v8
        refine bodyPost_ret (v := .tuple #[.agg zMsg, .int .i64 1]) (by simp [results, Tryz.results11, go_sem, v0, v1, v2, v3, v4, v5, v6, v7, v8]) rfl ?_
        refine ⟨HBF.out, ?_⟩
        rw [HDE.out]
      have HDE : Hid (decP s = some ⟨k0, mat, .mk nm [], sc, pc, mv, pv, tx⟩) := by rw [Hid, HDN.out]; unfold closeF; rw [if_pos ⟨hc, he⟩]
      rw [he] at CE
      generalize bs s = st at *
      have e1 : (st.toList == st.toList) = true := by simp
      go_wp2_with fail
      refine CE.out.mono ?_
      rintro e w6 ⟨rfl, hb⟩
      have HB6 := Lib.hid hb
      replace HD := Lib.hid (HD.out.keep hb)
      clear hb m0 m1 m2 m3 m4 m5 m6 m7 m8 p0 b1
      have r0 := cell_blk HD.out.res 0
      have g0 := frozen_blk HD.out.res 0
      have r1 := cell_blk HD.out.res 1
      have g1 := frozen_blk HD.out.res 1
      have r2 := cell_blk HD.out.res 2
      have g2 := frozen_blk HD.out.res 2
      have r3 := cell_blk HD.out.res 3
      have g3 := frozen_blk HD.out.res 3
      have r4 := cell_blk HD.out.res 4
      have g4 := frozen_blk HD.out.res 4
      have r5 := cell_blk HD.out.res 5
      have g5 := frozen_blk HD.out.res 5
      have r6 := cell_blk HD.out.res 6
      have g6 := frozen_blk HD.out.res 6
      have r7 := cell_blk HD.out.res 7
      have g7 := frozen_blk HD.out.res 7
      have r8 := cell_blk HD.out.res 8
      have g8 := frozen_blk HD.out.res 8
      have m0 := cell_blk HD.out.ms 0
      have m1 := cell_blk HD.out.ms 1
      have m2 := cell_blk HD.out.ms 2
      have m3 := cell_blk HD.out.ms 3
      have m4 := cell_blk HD.out.ms 4
      have m5 := cell_blk HD.out.ms 5
      have m6 := cell_blk HD.out.ms 6
      have m7 := cell_blk HD.out.ms 7
      have m8 := cell_blk HD.out.ms 8
      simp at m0 m1 m2 m3 m4 m5 m6 m7 m8
      go_wp2_with fail
      clear r0 r1 r2 r3 r4 r5 r6 r7 r8 g0 g1 g2 g3 g4 g5 g6 g7 g8
      have HN := Lib.hid (set_nine HD.out.res (.int .i64 k0) (.string (bs mat)) (.string (bs nm)) (.slice none 0 0) (.int .i64 sc) (.int .i64 pc) (.slice A1 mv.length c1) (.slice A2 pv.length c2) (.string (bs tx)))
      have HBF := Lib.hid (HD.out.be.trans (grown_below HN.out.2 (Nat.le_refl _) (by have := HD.out.size; omega)))
      have HS1' := Lib.hid (slv_grown (HS1.out.keep keeps_tm (fun j hj hl => ⟨hj, HB6.out.block j hl⟩) HB6.out.size) HN.out.2 (by omega))
      have HS2' := Lib.hid (slv_grown (HS2.out.keep keeps_tm (fun j hj hl => ⟨hj, HB6.out.block j hl⟩) HB6.out.size) HN.out.2 (by omega))
      generalize (((((((((w6.setCell ⟨w.heap.size, 0, none⟩ (.int .i64 k0)).setCell ⟨w.heap.size, 1, none⟩ (.string (bs mat))).setCell ⟨w.heap.size, 2, none⟩ (.string (bs nm))).setCell ⟨w.heap.size, 3, none⟩ (.slice none 0 0)).setCell ⟨w.heap.size, 4, none⟩ (.int .i64 sc)).setCell ⟨w.heap.size, 5, none⟩ (.int .i64 pc)).setCell ⟨w.heap.size, 6, none⟩ (.slice A1 mv.length c1)).setCell ⟨w.heap.size, 7, none⟩ (.slice A2 pv.length c2)).setCell ⟨w.heap.size, 8, none⟩ (.string (bs tx))) = w9 at *
      have c := cell_blk HN.out.1
      have v0 := c 0
      have v1 := c 1
      have v2 := c 2
      have v3 := c 3
      have v4 := c 4
      have v5 := c 5
      have v6 := c 6
      have v7 := c 7
      have v8 := c 8
      simp at v0 v1 v2 v3 v4 v5 v6 v7 v8
      refine bodyPost_ret (v := .tuple #[.agg #[.int .i64 k0, .string (bs mat), .string (bs nm), .slice none 0 0, .int .i64 sc, .int .i64 pc, .slice A1 mv.length c1, .slice A2 pv.length c2, .string (bs tx)], .int .i64 0]) (by simp [results, Tryz.results11, go_sem, v0, v1, v2, v3, v4, v5, v6, v7, v8]) rfl ?_
      refine ⟨HBF.out, ?_⟩
      rw [HDE.out]
      exact ⟨_, ⟨A1, c1, A2, c2, rfl, rfl, HS1'.out, HS2'.out⟩, rfl⟩
end Go.Proofs.YtmplpbdldcokjaaGreatDoor
