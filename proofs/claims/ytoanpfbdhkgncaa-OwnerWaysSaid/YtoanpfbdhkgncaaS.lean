/-
  PROVED: The walk of the law OwnerWays. CONDITIONS: the list came in.
-/
import Derived.Test.YtoanpfbdhkgncaaR
namespace Go.Proofs.Ytoanpfbdhkgncaa
open Go.RowKit
attribute [local go_sem] Oper.semAt_some
set_option maxRecDepth 100000
set_option maxHeartbeats 4000000
theorem refWay_any2 (n l s : Int) (v : Value) (xs : List Ow) (x : Sk) (w : World) (h : Owns w v xs) (hsz : xs.length ≤ 1000) :
    Calls Try.prog 15 #[shapeV n l s, v, x.val] w fun e w' => (∃ v, e = .returned (.tuple #[v, .bool (askedOk n l s xs x)]) ∧ w'.ownsRow w.heap.size 25 2 v (wayR n l s xs x).length (flat (wayR n l s xs x))) ∧ Below w.heap.size w w' := refWay_any n l s v xs x w h hsz
theorem num_keep2 (k : Int) (w : World) : Calls Try.prog 11 #[.int .i64 k] w fun e w' => e = .returned (.int .i64 k) ∧ w = w' := num_keep k w
theorem keepsBut_far {Bx : Nat → Prop} {W W' : World} {B : Nat} (h : Below B W W') (hB : W.heap.size ≤ B) : KeepsBut Bx W W' := keepsBut_below (h.mono hB)
theorem ways_law (n l s : Int) (a : Option Addr) (len cap : Nat) (xs : List Ow) (many : Int) (x : Sk) (w : World) (hin : OwnsIn w a len cap xs) :
    Calls Try.prog 5 #[shapeV n l s, .agg #[.slice a len cap, .int .i64 many], x.val] w fun e w' => e = .returned (.bool true) ∧ Below w.heap.size w w' := by
  obtain ⟨rfl, hst, hn⟩ := hin
  have hn' : ∀ m c, Value.slice a xs.length cap = .slice none m c → c = 0 := fun m c h => by cases h; exact hn rfl
  have HO := Lib.hid hst
  have HW := Lib.hid works_any
  obtain ⟨ao, cp, e0, hl, -⟩ := hst
  cases e0
  have HWY := Lib.hid (fun w h hsz => way_any n l s (.slice a xs.length cap) xs x w h hn' hsz)
  have HEN := Lib.hid (fun w h hsz => ends_any n l s (.slice a xs.length cap) xs x w h hn' hsz)
  have HRW := Lib.hid (fun w h hsz => refWay_any2 n l s (.slice a xs.length cap) xs x w h hsz)
  have hwl : (wayR n l s xs x).length ≤ xs.length := by
    unfold wayR
    split
    · exact way_le _ _ _ _
    · simp
  have HNO : Hid (askedOk n l s xs x = false → wayR n l s xs x = []) := fun h => by unfold wayR; rw [h]; rfl
  have HE : Hid (endsR n l s xs x = if askedOk n l s xs x then (endAt (wayR n l s xs x) x.origin, 0) else (0, 2)) := rfl
  generalize endsR n l s xs x = en at *
  obtain ⟨ea, ee⟩ := en
  generalize wayR n l s xs x = ys at *
  generalize askedOk n l s xs x = ok at *
  obtain ⟨has, ⟨k, h⟩, o, c⟩ := x
  simp only [Sk.val, shapeV] at *
  clear hn hn'
  by_cases hbig : (100 : Int) < (xs.length : Int)
  · go_enter Try.func5, Try.ntmps5
    go_wp2_with fail
    refine (HW.out _).mono ?_
    rintro e w1 ⟨rfl, hb⟩
    have BX : Hid (w1.heap[w.heap.size + 1 + 1 + 1]? = some (.cells #[.bool false] 4)) := heap_call hb (heap_new (by simp))
    have HBz := Lib.hid (((((below_new _).alloc (by simp) _).alloc (by simp; omega) _).alloc (by simp; omega) _).trans (hb.mono (by simp; omega)))
    have c0 : w1.cell? ⟨w.heap.size + 1 + 1 + 1, 0, none⟩ = some (.bool false) := cell_of BX.out 0
    have f0 := free_of BX.out 0
    clear hb
    go_wp2
    refine bodyPost_ret (v := .bool true) (by simp [results, Try.results5, go_sem, c0]) rfl ⟨rfl, HBz.out.setCell (by show w.heap.size ≤ w.heap.size + 1 + 1 + 1; omega) _⟩
  · have hsm : xs.length ≤ 100 := by omega
    refine (callsIn_wide (n := 3)).1 ?_
    refine callsIn_of_wp_marks Try.func5 rfl trivial ?_ rfl
    simp only [Try.ntmps5, List.size_toArray, List.length_cons, List.length_nil, Nat.reduceAdd, Nat.reduceSub, Array.replicate_succ, Array.replicate_zero, List.push_toArray, List.append_toArray, List.nil_append, List.cons_append]
    refine wpIn_wide.2 ?_
    go_wp2_with fail
    refine (HRW.out _ (HO.out.below ((((below_new _).alloc (by simp) _).alloc (by simp; omega) _).alloc (by simp; omega) _) (Nat.le_refl _)) (by omega)).mono ?_
    rintro e w1 ⟨⟨v1, rfl, hrow⟩, hb⟩
    have P := Lib.hid (heap_call hb (heap_old (heap_old (heap_old (heap_new (W := w) rfl)))))
    have KA : Hid (w1.heap[w.heap.size + 1]? = some (.cells #[.slice a xs.length cap, .int .i64 many] 46)) := heap_call hb (heap_old (heap_old (heap_new (by simp))))
    have Q : Hid (w1.heap[w.heap.size + 1 + 1]? = some (.cells #[.bool has, .int .i64 k, .int .i64 h, .int .i64 o, .int .i64 c] 27)) := heap_call hb (heap_old (heap_new (by simp)))
    have BX : Hid (w1.heap[w.heap.size + 1 + 1 + 1]? = some (.cells #[.bool false] 4)) := heap_call hb (heap_new (by simp))
    have HB1 := Lib.hid (((((below_new _).alloc (by simp) _).alloc (by simp; omega) _).alloc (by simp; omega) _).trans (hb.mono (by simp; omega)))
    obtain ⟨a1, cp1, rfl, -⟩ := row_form hrow
    have HRY := Lib.hid (Owns.of_row hrow)
    have hs1 := hb.size
    simp only [World.size_alloc] at hs1
    have p0 : w1.cell? ⟨w.heap.size, 0, none⟩ = some (.int .i64 n) := cell_of P.out 0
    have p1 : w1.cell? ⟨w.heap.size, 1, none⟩ = some (.int .i64 l) := cell_of P.out 1
    have p2 : w1.cell? ⟨w.heap.size, 2, none⟩ = some (.int .i64 s) := cell_of P.out 2
    have k0 : w1.cell? ⟨w.heap.size + 1, 0, none⟩ = some (.slice a xs.length cap) := cell_of KA.out 0
    have q0 : w1.cell? ⟨w.heap.size + 1 + 1, 0, none⟩ = some (.bool has) := cell_of Q.out 0
    have q1 : w1.cell? ⟨w.heap.size + 1 + 1, 1, none⟩ = some (.int .i64 k) := cell_of Q.out 1
    have q2 : w1.cell? ⟨w.heap.size + 1 + 1, 2, none⟩ = some (.int .i64 h) := cell_of Q.out 2
    have q3 : w1.cell? ⟨w.heap.size + 1 + 1, 3, none⟩ = some (.int .i64 o) := cell_of Q.out 3
    have q4 : w1.cell? ⟨w.heap.size + 1 + 1, 4, none⟩ = some (.int .i64 c) := cell_of Q.out 4
    have hlt0 := heap_lt P.out
    have hlt1 := heap_lt KA.out
    have hlt2 := heap_lt Q.out
    clear hb hrow
    go_wp2_with fail
    refine (HEN.out _ (HO.out.below (HB1.out.alloc HB1.out.size _) (Nat.le_refl _)) (by omega)).mono ?_
    rintro e w2 ⟨rfl, hb⟩
    have BA := Lib.hid (heap_call hb (heap_new (W := w1) (o := .cells #[.slice a1 ys.length cp1] 44) rfl))
    have P := Lib.hid (heap_call hb (heap_old P.out))
    have KA := Lib.hid (heap_call hb (heap_old KA.out))
    have Q := Lib.hid (heap_call hb (heap_old Q.out))
    have BX := Lib.hid (heap_call hb (heap_old BX.out))
    have HRY := Lib.hid (HRY.out.below ((below_new (w := w1) _).trans (hb.mono (by simp))) (Nat.le_refl _))
    have HB2 := Lib.hid ((HB1.out.alloc HB1.out.size (.cells #[.slice a1 ys.length cp1] 44)).trans (hb.mono (by have := HB1.out.size; simp; omega)))
    have hs2 := hb.size
    simp only [World.size_alloc] at hs2
    clear hb p0 p1 p2 k0 q0 q1 q2 q3 q4 hlt0 hlt1 hlt2
    have p0 : w2.cell? ⟨w.heap.size, 0, none⟩ = some (.int .i64 n) := cell_of P.out 0
    have p1 : w2.cell? ⟨w.heap.size, 1, none⟩ = some (.int .i64 l) := cell_of P.out 1
    have p2 : w2.cell? ⟨w.heap.size, 2, none⟩ = some (.int .i64 s) := cell_of P.out 2
    have k0 : w2.cell? ⟨w.heap.size + 1, 0, none⟩ = some (.slice a xs.length cap) := cell_of KA.out 0
    have q0 : w2.cell? ⟨w.heap.size + 1 + 1, 0, none⟩ = some (.bool has) := cell_of Q.out 0
    have q1 : w2.cell? ⟨w.heap.size + 1 + 1, 1, none⟩ = some (.int .i64 k) := cell_of Q.out 1
    have q2 : w2.cell? ⟨w.heap.size + 1 + 1, 2, none⟩ = some (.int .i64 h) := cell_of Q.out 2
    have q3 : w2.cell? ⟨w.heap.size + 1 + 1, 3, none⟩ = some (.int .i64 o) := cell_of Q.out 3
    have q4 : w2.cell? ⟨w.heap.size + 1 + 1, 4, none⟩ = some (.int .i64 c) := cell_of Q.out 4
    have hlt0 := heap_lt P.out
    have hlt1 := heap_lt KA.out
    have hlt2 := heap_lt Q.out
    go_wp2_with fail
    refine (HWY.out _ (HO.out.below HB2.out (Nat.le_refl _)) (by omega)).mono ?_
    rintro e w3 ⟨⟨lb, rfl, hseq⟩, hb⟩
    have BA := Lib.hid (heap_call hb BA.out)
    have KA := Lib.hid (heap_call hb KA.out)
    have Q := Lib.hid (heap_call hb Q.out)
    have BX := Lib.hid (heap_call hb BX.out)
    have HRY := Lib.hid (HRY.out.below hb (Nat.le_refl _))
    have HB3 := Lib.hid (HB2.out.trans (hb.mono HB2.out.size))
    have hs3 := hb.size
    have HSQ := Lib.hid hseq
    have FN := func_nil lb
    clear hb hseq p0 p1 p2 k0 q0 q1 q2 q3 q4 hlt0 hlt1 hlt2
    go_upto_region 6 with fail
    go_cut [63] from 42 to 63 (fun s63 wx => s63 = .bool false ∧ w3 = wx)
    case first =>
      cases ok
      · obtain ⟨rfl, rfl⟩ : ea = 0 ∧ ee = 2 := by have := HE.out; simpa using this
        go_wp2_with (go_at_call 11; refine (num_keep _ _).mono ?_; rintro e w' ⟨rfl, rfl⟩)
        go_meet
        exact ⟨rfl, rfl⟩
      · obtain ⟨-, rfl⟩ : ea = endAt ys o ∧ ee = 0 := by have := HE.out; simpa using this
        go_wp2_with (go_at_call 11; refine (num_keep _ _).mono ?_; rintro e w' ⟨rfl, rfl⟩)
        go_meet
        exact ⟨rfl, rfl⟩
    case rest =>
      obtain ⟨rfl, rfl⟩ := hcut
      have q2 : w3.cell? ⟨w.heap.size + 1 + 1, 3, none⟩ = some (.int .i64 o) := cell_of Q.out 3
      have b0 : w3.cell? ⟨w1.heap.size, 0, none⟩ = some (.slice a1 ys.length cp1) := cell_of BA.out 0
      go_upto_region 8 with fail
      go_cut [91] from 64 to 91 (fun s91 wx => s91 = .bool false ∧ w3 = wx)
      case first =>
        cases ok
        · go_wp2_with fail
          go_meet
          exact ⟨rfl, rfl⟩
        · obtain ⟨rfl, -⟩ : ea = endAt ys o ∧ ee = 0 := by have := HE.out; simpa using this
          clear HE
          by_cases h0 : ys = []
          · subst h0
            have e1 : (endAt [] o != o) = false := by simp [endAt]
            simp only [List.length_nil] at b0
            go_wp2_with fail
            go_meet
            exact ⟨rfl, rfl⟩
          · have hlen : 0 < ys.length := List.length_pos_iff.2 h0
            obtain ⟨ao, cp, e2, -, hc⟩ := HRY.out
            cases e2
            obtain ⟨b, off, rfl, hc2⟩ := hc hlen
            obtain ⟨d0, -⟩ := hc2 (ys.length - 1) (by omega)
            have hlast : (ys[ys.length - 1]).node = endAt ys o := by
              unfold endAt
              rw [List.getLast?_eq_getElem?, List.getElem?_eq_getElem (by omega)]
              rfl
            rw [hlast] at d0
            have e1 : ((ys.length : Int) == 0) = false := by simp; omega
            have e3 : decide ((0 : Int) < (ys.length : Int)) = true := by simp; omega
            have hm0 : (0 : Int) ≤ (ys.length : Int) - 1 := by omega
            have hm1 : (ys.length : Int) - 1 < (ys.length : Int) := by omega
            have hm2 : ((ys.length : Int) - 1).toNat = ys.length - 1 := by omega
            clear hc hc2 hlast
            go_wp2_with fail
            go_meet
            exact ⟨rfl, rfl⟩
      case rest =>
        obtain ⟨rfl, rfl⟩ := hcut
        clear q2 b0
        go_wp2_with fail
        refine wp_loop_ghost_k (fun kk act W => ∃ (t : Nat) (ds : List Deferred) (U T : Nat) (x13 x14 x15 x92 x93 x94 x95 x96 x97 x98 x99 x100 x101 x102 x103 x104 x105 x106 x107 x108 x109 x110 x111 x112 x113 x114 x115 x116 x117 x118 x119 x120 x121 x122 x123 x124 x125 x126 x127 x128 x129 x130 x131 x132 x133 x134 x135 x136 x137 x138 x139 x140 x141 x142 x143 x144 x145 : Value), t ≤ 2 ∧ kk = 2 - t ∧ act = { tmps := #[.agg #[.int .i64 n, .int .i64 l, .int .i64 s], .agg #[.slice a xs.length cap, .int .i64 many], .agg #[.bool has, .int .i64 k, .int .i64 h, .int .i64 o, .int .i64 c], .pointer (some ⟨w.heap.size, 0, none⟩), .pointer (some ⟨w.heap.size + 1, 0, none⟩), .pointer (some ⟨w.heap.size + 1 + 1, 0, none⟩), .pointer (some ⟨w.heap.size + 1 + 1 + 1, 0, none⟩), .pointer (some ⟨w1.heap.size, 0, none⟩), .bool ok, .int .i64 ea, .int .i64 ee, .func (.func 32) #[] lb, .pointer (some ⟨T, 0, none⟩), x13, x14, x15, .pointer (some ⟨w.heap.size + 1, 0, none⟩), .slice a xs.length cap, .int .i64 (xs.length : Int), .bool false, undef, .tuple #[.slice a1 ys.length cp1, .bool ok], .agg #[.int .i64 n, .int .i64 l, .int .i64 s], .pointer (some ⟨w.heap.size + 1, 0, none⟩), .slice a xs.length cap, .agg #[.bool has, .int .i64 k, .int .i64 h, .int .i64 o, .int .i64 c], .tuple #[.slice a1 ys.length cp1, .bool ok], .slice a1 ys.length cp1, .bool ok, .tuple #[.int .i64 ea, .int .i64 ee], .agg #[.int .i64 n, .int .i64 l, .int .i64 s], .pointer (some ⟨w.heap.size + 1, 0, none⟩), .slice a xs.length cap, .agg #[.bool has, .int .i64 k, .int .i64 h, .int .i64 o, .int .i64 c], .tuple #[.int .i64 ea, .int .i64 ee], .int .i64 ea, .int .i64 ee, .agg #[.int .i64 n, .int .i64 l, .int .i64 s], .pointer (some ⟨w.heap.size + 1, 0, none⟩), .slice a xs.length cap, .agg #[.bool has, .int .i64 k, .int .i64 h, .int .i64 o, .int .i64 c], .func (.func 32) #[] lb, u42, u43, u44, u45, u46, u47, u48, u49, u50, u51, u52, u53, u54, u55, u56, u57, u58, u59, u60, u61, u62, .bool false, u64, u65, u66, u67, u68, u69, u70, u71, u72, u73, u74, u75, u76, u77, u78, u79, u80, u81, u82, u83, u84, u85, u86, u87, u88, u89, u90, .bool false, x92, x93, x94, x95, x96, x97, x98, x99, x100, x101, x102, x103, x104, x105, x106, x107, x108, x109, x110, x111, x112, x113, x114, x115, x116, x117, x118, x119, x120, x121, x122, x123, x124, x125, x126, x127, x128, x129, x130, x131, x132, x133, x134, x135, x136, x137, x138, x139, x140, x141, x142, x143, x144, x145, undef], defers := ds } ∧ W.heap[T]? = some (.cells #[.int .i64 (t : Int)] 3) ∧ w3.heap.size ≤ T ∧ Below w3.heap.size w3 W ∧ Marks w3.heap.size U ds W ∧ U ≤ W.heap.size) 2 ⟨0, [], 0, w3.heap.size, undef, undef, undef, undef, undef, undef, undef, undef, undef, undef, undef, undef, undef, undef, undef, undef, undef, undef, undef, undef, undef, undef, undef, undef, undef, undef, undef, undef, undef, undef, undef, undef, undef, undef, undef, undef, undef, undef, undef, undef, undef, undef, undef, undef, undef, undef, undef, undef, undef, undef, undef, undef, undef, undef, undef, undef, undef, by omega, rfl, rfl, heap_new rfl, Nat.le_refl _, below_new _, trivial, Nat.zero_le _⟩ ?_
        rintro kk act W ⟨t, ds, U, T, x13, x14, x15, x92, x93, x94, x95, x96, x97, x98, x99, x100, x101, x102, x103, x104, x105, x106, x107, x108, x109, x110, x111, x112, x113, x114, x115, x116, x117, x118, x119, x120, x121, x122, x123, x124, x125, x126, x127, x128, x129, x130, x131, x132, x133, x134, x135, x136, x137, x138, x139, x140, x141, x142, x143, x144, x145, ht, rfl, rfl, hT, hT3, hB, hM, hU⟩ J K hJ hK
        have h3 : t = 0 ∨ t = 1 ∨ t = 2 := by omega
        rcases h3 with rfl | rfl | rfl
        · have c0 : W.cell? ⟨T, 0, none⟩ = some (.int .i64 0) := cell_of hT 0
          have hTl := heap_lt hT
          have hsW := hB.size
          have HT := Lib.hid hT
          have HBW := Lib.hid hB
          have HM := Lib.hid hM
          clear hT hB hM
          go_wp2_with fail
          refine (wpIn_wide (n := 3)).1 ?_
          have HOWN : OwnFrom (W.alloc (.cells #[.int .i64 0] 3)).heap.size (fun (pre : List Ow) V => ((V.heap[W.heap.size]? = some (.cells #[.int .i64 (pre.length : Int)] 3) ∧ V.heap[T]? = some (.cells #[.int .i64 0] 3)) ∧ Below w3.heap.size w3 V) ∧ Marks w3.heap.size U ds V) :=
            OwnFrom.and (OwnFrom.and (OwnFrom.and (Own.from (heap_own W.heap.size (fun pre : List Ow => .cells #[.int .i64 (pre.length : Int)] 3) (fun _ => rfl)) _) (Own.from (heap_own T (fun _ : List Ow => .cells #[.int .i64 0] 3) (fun _ => rfl)) _)) (ownFrom_below (Nat.le_refl _) (by simp; omega))) (Marks.own (by simp; omega))
          refine wpIn_rangeFunc_ownG rfl (by omega) (gf := 32) (lb := lb) rfl trivial (enters_of Try.func32 (by kernel_rfl) rfl)
            (HSQ.out (fun k => k = W.heap.size) (W.alloc (.cells #[.int .i64 0] 3)) _ (by omega) (by intro k h1 h2 e; omega) (by intro k hk e; simp at hk; omega) (keepsBut_far (HBW.out.alloc hsW _) (Nat.le_refl _)))
            (fun h k => h.trans k) (fun W l o o' _ h h1 _ => keepsBut_b W l o o' h h1) (Below.refl _ _) (fun _ => rfl)
            (fun pre V => (((V.heap[W.heap.size]? = some (.cells #[.int .i64 (pre.length : Int)] 3) ∧ V.heap[T]? = some (.cells #[.int .i64 0] 3)) ∧ Below w3.heap.size w3 V) ∧ Marks w3.heap.size U ds V) ∧ (pre <+: ys ∧ (pre.length = 0 ∨ (pre.length : Int) < many)))
            (fun cc pre V => (cc = .ret ∧ ¬ pre <+: ys) ∨ (cc = .exit 2 ∧ (((V.heap[W.heap.size]? = some (.cells #[.int .i64 (pre.length : Int)] 3) ∧ V.heap[T]? = some (.cells #[.int .i64 0] 3)) ∧ Below w3.heap.size w3 V) ∧ Marks w3.heap.size U ds V) ∧ (pre <+: ys ∧ many ≤ (pre.length : Int) ∧ 1 ≤ pre.length ∧ (pre.length = 1 ∨ (pre.length : Int) - 1 < many))))
            (OwnFrom.and HOWN (ownFrom_pure _ _))
            (fun cc s X Y row hs hg hr => hs.elim (fun h => .inl h) (fun h => .inr ⟨h.1, HOWN s X Y row h.2.1 hg hr, h.2.2⟩))
            ⟨⟨⟨⟨heap_new rfl, heap_old HT.out⟩, HBW.out.alloc hsW _⟩, HM.out.call (below_new _)⟩, List.nil_prefix, .inl rfl⟩
            (fun x => { tmps := #[.agg #[.int .i64 n, .int .i64 l, .int .i64 s], .agg #[.slice a xs.length cap, .int .i64 many], .agg #[.bool has, .int .i64 k, .int .i64 h, .int .i64 o, .int .i64 c], .pointer (some ⟨w.heap.size, 0, none⟩), .pointer (some ⟨w.heap.size + 1, 0, none⟩), .pointer (some ⟨w.heap.size + 1 + 1, 0, none⟩), .pointer (some ⟨w.heap.size + 1 + 1 + 1, 0, none⟩), .pointer (some ⟨w1.heap.size, 0, none⟩), .bool ok, .int .i64 ea, .int .i64 ee, .func (.func 32) #[] lb, .pointer (some ⟨T, 0, none⟩), .pointer (some ⟨W.heap.size, 0, none⟩), .int .i64 x.node, .int .i64 x.hop, .pointer (some ⟨w.heap.size + 1, 0, none⟩), .slice a xs.length cap, .int .i64 (xs.length : Int), .bool false, undef, .tuple #[.slice a1 ys.length cp1, .bool ok], .agg #[.int .i64 n, .int .i64 l, .int .i64 s], .pointer (some ⟨w.heap.size + 1, 0, none⟩), .slice a xs.length cap, .agg #[.bool has, .int .i64 k, .int .i64 h, .int .i64 o, .int .i64 c], .tuple #[.slice a1 ys.length cp1, .bool ok], .slice a1 ys.length cp1, .bool ok, .tuple #[.int .i64 ea, .int .i64 ee], .agg #[.int .i64 n, .int .i64 l, .int .i64 s], .pointer (some ⟨w.heap.size + 1, 0, none⟩), .slice a xs.length cap, .agg #[.bool has, .int .i64 k, .int .i64 h, .int .i64 o, .int .i64 c], .tuple #[.int .i64 ea, .int .i64 ee], .int .i64 ea, .int .i64 ee, .agg #[.int .i64 n, .int .i64 l, .int .i64 s], .pointer (some ⟨w.heap.size + 1, 0, none⟩), .slice a xs.length cap, .agg #[.bool has, .int .i64 k, .int .i64 h, .int .i64 o, .int .i64 c], .func (.func 32) #[] lb, u42, u43, u44, u45, u46, u47, u48, u49, u50, u51, u52, u53, u54, u55, u56, u57, u58, u59, u60, u61, u62, .bool false, u64, u65, u66, u67, u68, u69, u70, u71, u72, u73, u74, u75, u76, u77, u78, u79, u80, u81, u82, u83, u84, u85, u86, u87, u88, u89, u90, .bool false, .int .i64 0, .bool true, x94, x95, .func (.func 32) #[] lb, .int .i64 x.node, .int .i64 x.hop, x99, x100, x101, x102, x103, x104, x105, x106, x107, x108, x109, x110, x111, x112, x113, x114, x115, x116, x117, x118, x119, x120, x121, x122, x123, x124, x125, x126, x127, x128, x129, x130, x131, x132, x133, x134, x135, x136, x137, x138, x139, x140, x141, x142, x143, x144, x145, undef], defers := [] }) ?assign ?body ?done ?stop
          case assign =>
            intro l x V K hK
            gi_wp2
            exact hK
          case body =>
            rintro lx pre x V ⟨⟨⟨⟨h1, h2⟩, hBV⟩, hMV⟩, hpre, hcond⟩ hlt
            have H1 := Lib.hid h1
            have H2 := Lib.hid h2
            have HV := Lib.hid hBV
            have HMV := Lib.hid hMV
            have HP := Lib.hid hpre
            have HCO := Lib.hid hcond
            have BA2 := Lib.hid (heap_call hBV BA.out)
            have BX2 := Lib.hid (heap_call hBV BX.out)
            have KA2 := Lib.hid (heap_call hBV KA.out)
            have hbal := heap_lt BA.out
            have hbxl := heap_lt BX.out
            obtain ⟨ao, cp, e2, -, hc⟩ := HRY.out.below hBV (Nat.le_refl _)
            cases e2
            obtain ⟨b, off, rfl, hc2⟩ := hc (by omega)
            obtain ⟨d0, d1⟩ := hc2 pre.length hlt
            have b0 : V.cell? ⟨w1.heap.size, 0, none⟩ = some (.slice (some ⟨b, off, none⟩) ys.length cp1) := cell_of BA2.out 0
            have b1 : V.cell? ⟨w.heap.size + 1 + 1 + 1, 0, none⟩ = some (.bool false) := cell_of BX2.out 0
            have bf := free_of BX2.out 0
            have m1 : V.cell? ⟨w.heap.size + 1, 1, none⟩ = some (.int .i64 many) := cell_of KA2.out 1
            have n0 : V.cell? ⟨W.heap.size, 0, none⟩ = some (.int .i64 (pre.length : Int)) := cell_of H1.out 0
            have nf := free_of H1.out 0
            have t0 : V.cell? ⟨T, 0, none⟩ = some (.int .i64 0) := cell_of H2.out 0
            generalize hz : ys[pre.length] = z at d0 d1
            have HZ : Hid (ys[pre.length]? = some z) := Lib.hid (by rw [List.getElem?_eq_getElem hlt, hz])
            have HLT := Lib.hid hlt
            have hpi : (pre.length : Int) < (ys.length : Int) := by omega
            have hpn : (0 : Int) ≤ (pre.length : Int) := by omega
            have hp200 : pre.length < 200 := by omega
            have HLN : Hid (((pre ++ [x]).length : Int) = (pre.length : Int) + 1) := Lib.hid (by simp)
            have HLM : Hid ((pre ++ [x]).length = pre.length + 1) := Lib.hid (by simp)
            obtain ⟨nd, hp⟩ := x
            obtain ⟨zn, zh⟩ := z
            clear h1 h2 hBV hMV hpre hcond hc hc2 hz hlt
            by_cases hx : nd = zn ∧ hp = zh
            · obtain ⟨rfl, rfl⟩ := hx
              have HPP : Hid (pre ++ [⟨nd, hp⟩] <+: ys) := Lib.hid (by
                obtain ⟨q, hq⟩ := HP.out
                have h3 := HZ.out
                have h4 := HLT.out
                subst hq
                rw [List.getElem?_append_right (Nat.le_refl _)] at h3
                cases q with
                | nil => simp at h4
                | cons y q => simp at h3; subst h3; exact ⟨q, by simp⟩)
              have hq : ∀ W, (binOp .neq 25 (.agg #[.int .i64 nd, .int .i64 hp]) (.agg #[.int .i64 nd, .int .i64 hp])).run Try.prog W = .ok (.bool false) W := by
                intro W; rw [own_neq]; simp
              generalize hpl : pre.length = pl at *
              by_cases hm : many ≤ (pl : Int) + 1
              · gi_wp2
                refine ⟨(KeepsOthers.setCell _ _ _).from _, .inr ⟨rfl, ⟨⟨⟨?_, (Below.heap_setCell _ _ _ _ (by show T ≠ W.heap.size; omega)).trans H2.out⟩, HV.out.setCell (by show w3.heap.size ≤ W.heap.size; omega) _⟩, HMV.out.set H1.out _ _⟩, HPP.out, by rw [HLN.out]; exact hm, by rw [HLM.out]; omega, ?_⟩⟩
                · rw [HLN.out]
                  exact heap_set (i := 0) (v := .int .i64 ((pl : Int) + 1)) H1.out
                · have h5 := HCO.out
                  rw [HLM.out]
                  omega
              · gi_wp2
                refine ⟨(KeepsOthers.setCell _ _ _).from _, keepsBut_set (Bx := fun k => k = W.heap.size) rfl _ _, ⟨⟨⟨⟨?_, (Below.heap_setCell _ _ _ _ (by show T ≠ W.heap.size; omega)).trans H2.out⟩, HV.out.setCell (by show w3.heap.size ≤ W.heap.size; omega) _⟩, HMV.out.set H1.out _ _⟩, HPP.out, .inr (by rw [HLN.out]; omega)⟩⟩
                rw [HLN.out]
                exact heap_set (i := 0) (v := .int .i64 ((pl : Int) + 1)) H1.out
            · have e1 : (((zn : Int) == nd) && ((zh : Int) == hp)) = false := by
                by_cases h1 : (zn : Int) = nd
                · have h2 : ¬ (zh : Int) = hp := fun h2 => hx ⟨h1.symm, h2.symm⟩
                  simp [h2]
                · simp [h1]
              have hq : ∀ W, (binOp .neq 25 (.agg #[.int .i64 zn, .int .i64 zh]) (.agg #[.int .i64 nd, .int .i64 hp])).run Try.prog W = .ok (.bool true) W := by
                intro W; rw [own_neq, e1]; rfl
              have HNP : Hid (¬ pre ++ [⟨nd, hp⟩] <+: ys) := Lib.hid (by
                intro h
                obtain ⟨q, hq⟩ := h
                have h3 := HZ.out
                subst hq
                simp at h3
                exact hx ⟨by rw [h3.1], by rw [h3.2]⟩)
              generalize hpl : pre.length = pl at *
              clear hx e1
              gi_wp2
              exact ⟨(KeepsOthers.setCell _ _ _).from _, .inl ⟨rfl, HNP.out⟩⟩
          case done =>
            rintro D ys' V hD rfl ⟨⟨⟨⟨h1, h2⟩, hBV⟩, hMV⟩, -, hcond⟩ hD0
            have HV := Lib.hid hBV
            have HMV := Lib.hid hMV
            have HD := Lib.hid hD0
            have hDl := heap_lt hD0
            have BA2 := Lib.hid (heap_call hBV BA.out)
            have KA2 := Lib.hid (heap_call hBV KA.out)
            have b0 : V.cell? ⟨w1.heap.size, 0, none⟩ = some (.slice a1 ys'.length cp1) := cell_of BA2.out 0
            have m1 : V.cell? ⟨w.heap.size + 1, 1, none⟩ = some (.int .i64 many) := cell_of KA2.out 1
            have n0 : V.cell? ⟨W.heap.size, 0, none⟩ = some (.int .i64 (ys'.length : Int)) := cell_of h1 0
            have t0 : V.cell? ⟨T, 0, none⟩ = some (.int .i64 0) := cell_of h2 0
            have hsV := hBV.size
            clear h1 h2 hBV hMV hD0
            go_upto_region 21 with fail
            go_cut [144] from 123 to 144 (fun s144 wx => s144 = .bool false ∧ V = wx)
            case first =>
              have h5 := hcond
              clear hcond
              by_cases g1 : (1 : Int) < many
              · have g2 : ¬ many < (ys'.length : Int) := by omega
                go_wp2_with fail
                go_meet
                exact ⟨rfl, rfl⟩
              · have g2 : ¬ (1 : Int) < (ys'.length : Int) := by omega
                go_wp2_with fail
                go_meet
                exact ⟨rfl, rfl⟩
            case rest =>
              obtain ⟨rfl, rfl⟩ := hcut
              go_wp2_with fail
              refine Handed.intro 1 (by omega) (hJ _ _ _ ?_)
              refine ⟨1, _, D + 1, V.heap.size, _, _, _, _, _, _, _, _, _, _, _, _, _, _, _, _, _, _, _, _, _, _, _, _, _, _, _, _, _, _, _, _, _, _, _, _, _, _, _, _, _, _, _, _, _, _, _, _, _, _, _, _, _, _, _, _, _, by omega, rfl, rfl, heap_new rfl, hsV, HV.out.alloc hsV _, ⟨D, rfl, by simp at hD; omega, by omega, heap_old HD.out, (HMV.out.call (below_new _)).mono (by simp at hD; omega)⟩, by simp; omega⟩
          case stop =>
            rintro D cc pre V hD hSp hIx hD0
            rcases hIx with ⟨-, h⟩ | ⟨rfl, ⟨⟨⟨h1, h2⟩, hBV⟩, hMV⟩, hpre, hcm, hcm1, hcm2⟩
            · exact absurd hSp h
            · refine wpIn_wide.2 ?_
              have HV := Lib.hid hBV
              have HMV := Lib.hid hMV
              have HD := Lib.hid hD0
              have hDl := heap_lt hD0
              have BA2 := Lib.hid (heap_call hBV BA.out)
              have KA2 := Lib.hid (heap_call hBV KA.out)
              have b0 : V.cell? ⟨w1.heap.size, 0, none⟩ = some (.slice a1 ys.length cp1) := cell_of BA2.out 0
              have m1 : V.cell? ⟨w.heap.size + 1, 1, none⟩ = some (.int .i64 many) := cell_of KA2.out 1
              have n0 : V.cell? ⟨W.heap.size, 0, none⟩ = some (.int .i64 (pre.length : Int)) := cell_of h1 0
              have t0 : V.cell? ⟨T, 0, none⟩ = some (.int .i64 0) := cell_of h2 0
              have hsV := hBV.size
              clear h1 h2 hBV hMV hD0
              go_upto_region 21 with fail
              go_cut [144] from 123 to 144 (fun s144 wx => s144 = .bool false ∧ V = wx)
              case first =>
                have h5 := hpre.length_le
                by_cases g1 : (1 : Int) < many
                · have e1 : ((pre.length : Int) != many) = false := by simp only [bne_eq_false_iff_eq]; omega
                  by_cases g2 : many < (ys.length : Int)
                  · go_wp2_with fail
                    go_meet
                    exact ⟨rfl, rfl⟩
                  · have e2 : ((pre.length : Int) != (ys.length : Int)) = false := by simp only [bne_eq_false_iff_eq]; omega
                    go_wp2_with fail
                    go_meet
                    exact ⟨rfl, rfl⟩
                · have e1 : ((pre.length : Int) != 1) = false := by simp only [bne_eq_false_iff_eq]; omega
                  by_cases g2 : (1 : Int) < (ys.length : Int)
                  · go_wp2_with fail
                    go_meet
                    exact ⟨rfl, rfl⟩
                  · have e2 : ((pre.length : Int) != (ys.length : Int)) = false := by simp only [bne_eq_false_iff_eq]; omega
                    go_wp2_with fail
                    go_meet
                    exact ⟨rfl, rfl⟩
              case rest =>
                obtain ⟨rfl, rfl⟩ := hcut
                go_wp2_with fail
                refine Handed.intro 1 (by omega) (hJ _ _ _ ?_)
                refine ⟨1, _, D + 1, V.heap.size, _, _, _, _, _, _, _, _, _, _, _, _, _, _, _, _, _, _, _, _, _, _, _, _, _, _, _, _, _, _, _, _, _, _, _, _, _, _, _, _, _, _, _, _, _, _, _, _, _, _, _, _, _, _, _, _, _, by omega, rfl, rfl, heap_new rfl, hsV, HV.out.alloc hsV _, ⟨D, rfl, by simp at hD; omega, by omega, heap_old HD.out, (HMV.out.call (below_new _)).mono (by simp at hD; omega)⟩, by simp; omega⟩
        · have c0 : W.cell? ⟨T, 0, none⟩ = some (.int .i64 1) := cell_of hT 0
          have hTl := heap_lt hT
          have hsW := hB.size
          have HT := Lib.hid hT
          have HBW := Lib.hid hB
          have HM := Lib.hid hM
          clear hT hB hM
          go_wp2_with fail
          refine (wpIn_wide (n := 3)).1 ?_
          have HOWN : OwnFrom (W.alloc (.cells #[.int .i64 0] 3)).heap.size (fun (pre : List Ow) V => ((V.heap[W.heap.size]? = some (.cells #[.int .i64 (pre.length : Int)] 3) ∧ V.heap[T]? = some (.cells #[.int .i64 1] 3)) ∧ Below w3.heap.size w3 V) ∧ Marks w3.heap.size U ds V) :=
            OwnFrom.and (OwnFrom.and (OwnFrom.and (Own.from (heap_own W.heap.size (fun pre : List Ow => .cells #[.int .i64 (pre.length : Int)] 3) (fun _ => rfl)) _) (Own.from (heap_own T (fun _ : List Ow => .cells #[.int .i64 1] 3) (fun _ => rfl)) _)) (ownFrom_below (Nat.le_refl _) (by simp; omega))) (Marks.own (by simp; omega))
          refine wpIn_rangeFunc_ownG rfl (by omega) (gf := 32) (lb := lb) rfl trivial (enters_of Try.func32 (by kernel_rfl) rfl)
            (HSQ.out (fun k => k = W.heap.size) (W.alloc (.cells #[.int .i64 0] 3)) _ (by omega) (by intro k h1 h2 e; omega) (by intro k hk e; simp at hk; omega) (keepsBut_far (HBW.out.alloc hsW _) (Nat.le_refl _)))
            (fun h k => h.trans k) (fun W l o o' _ h h1 _ => keepsBut_b W l o o' h h1) (Below.refl _ _) (fun _ => rfl)
            (fun pre V => (((V.heap[W.heap.size]? = some (.cells #[.int .i64 (pre.length : Int)] 3) ∧ V.heap[T]? = some (.cells #[.int .i64 1] 3)) ∧ Below w3.heap.size w3 V) ∧ Marks w3.heap.size U ds V) ∧ pre <+: ys)
            (fun cc pre _ => cc = .ret ∧ ¬ pre <+: ys)
            (OwnFrom.and HOWN (ownFrom_pure _ _))
            (fun cc => ownFrom_pure _ _)
            ⟨⟨⟨⟨heap_new rfl, heap_old HT.out⟩, HBW.out.alloc hsW _⟩, HM.out.call (below_new _)⟩, List.nil_prefix⟩
            (fun x => { tmps := #[.agg #[.int .i64 n, .int .i64 l, .int .i64 s], .agg #[.slice a xs.length cap, .int .i64 many], .agg #[.bool has, .int .i64 k, .int .i64 h, .int .i64 o, .int .i64 c], .pointer (some ⟨w.heap.size, 0, none⟩), .pointer (some ⟨w.heap.size + 1, 0, none⟩), .pointer (some ⟨w.heap.size + 1 + 1, 0, none⟩), .pointer (some ⟨w.heap.size + 1 + 1 + 1, 0, none⟩), .pointer (some ⟨w1.heap.size, 0, none⟩), .bool ok, .int .i64 ea, .int .i64 ee, .func (.func 32) #[] lb, .pointer (some ⟨T, 0, none⟩), .pointer (some ⟨W.heap.size, 0, none⟩), .int .i64 x.node, .int .i64 x.hop, .pointer (some ⟨w.heap.size + 1, 0, none⟩), .slice a xs.length cap, .int .i64 (xs.length : Int), .bool false, undef, .tuple #[.slice a1 ys.length cp1, .bool ok], .agg #[.int .i64 n, .int .i64 l, .int .i64 s], .pointer (some ⟨w.heap.size + 1, 0, none⟩), .slice a xs.length cap, .agg #[.bool has, .int .i64 k, .int .i64 h, .int .i64 o, .int .i64 c], .tuple #[.slice a1 ys.length cp1, .bool ok], .slice a1 ys.length cp1, .bool ok, .tuple #[.int .i64 ea, .int .i64 ee], .agg #[.int .i64 n, .int .i64 l, .int .i64 s], .pointer (some ⟨w.heap.size + 1, 0, none⟩), .slice a xs.length cap, .agg #[.bool has, .int .i64 k, .int .i64 h, .int .i64 o, .int .i64 c], .tuple #[.int .i64 ea, .int .i64 ee], .int .i64 ea, .int .i64 ee, .agg #[.int .i64 n, .int .i64 l, .int .i64 s], .pointer (some ⟨w.heap.size + 1, 0, none⟩), .slice a xs.length cap, .agg #[.bool has, .int .i64 k, .int .i64 h, .int .i64 o, .int .i64 c], .func (.func 32) #[] lb, u42, u43, u44, u45, u46, u47, u48, u49, u50, u51, u52, u53, u54, u55, u56, u57, u58, u59, u60, u61, u62, .bool false, u64, u65, u66, u67, u68, u69, u70, u71, u72, u73, u74, u75, u76, u77, u78, u79, u80, u81, u82, u83, u84, u85, u86, u87, u88, u89, u90, .bool false, .int .i64 1, .bool true, x94, x95, .func (.func 32) #[] lb, .int .i64 x.node, .int .i64 x.hop, x99, x100, x101, x102, x103, x104, x105, x106, x107, x108, x109, x110, x111, x112, x113, x114, x115, x116, x117, x118, x119, x120, x121, x122, x123, x124, x125, x126, x127, x128, x129, x130, x131, x132, x133, x134, x135, x136, x137, x138, x139, x140, x141, x142, x143, x144, x145, undef], defers := [] }) ?assign ?body ?done ?stop
          case assign =>
            intro l x V K hK
            gi_wp2
            exact hK
          case body =>
            rintro lx pre x V ⟨⟨⟨⟨h1, h2⟩, hBV⟩, hMV⟩, hpre⟩ hlt
            have H1 := Lib.hid h1
            have H2 := Lib.hid h2
            have HV := Lib.hid hBV
            have HMV := Lib.hid hMV
            have HP := Lib.hid hpre
            have BA2 := Lib.hid (heap_call hBV BA.out)
            have BX2 := Lib.hid (heap_call hBV BX.out)
            have KA2 := Lib.hid (heap_call hBV KA.out)
            have hbal := heap_lt BA.out
            have hbxl := heap_lt BX.out
            obtain ⟨ao, cp, e2, -, hc⟩ := HRY.out.below hBV (Nat.le_refl _)
            cases e2
            obtain ⟨b, off, rfl, hc2⟩ := hc (by omega)
            obtain ⟨d0, d1⟩ := hc2 pre.length hlt
            have b0 : V.cell? ⟨w1.heap.size, 0, none⟩ = some (.slice (some ⟨b, off, none⟩) ys.length cp1) := cell_of BA2.out 0
            have b1 : V.cell? ⟨w.heap.size + 1 + 1 + 1, 0, none⟩ = some (.bool false) := cell_of BX2.out 0
            have bf := free_of BX2.out 0
            have m1 : V.cell? ⟨w.heap.size + 1, 1, none⟩ = some (.int .i64 many) := cell_of KA2.out 1
            have n0 : V.cell? ⟨W.heap.size, 0, none⟩ = some (.int .i64 (pre.length : Int)) := cell_of H1.out 0
            have nf := free_of H1.out 0
            have t0 : V.cell? ⟨T, 0, none⟩ = some (.int .i64 1) := cell_of H2.out 0
            generalize hz : ys[pre.length] = z at d0 d1
            have HZ : Hid (ys[pre.length]? = some z) := Lib.hid (by rw [List.getElem?_eq_getElem hlt, hz])
            have HLT := Lib.hid hlt
            have hpi : (pre.length : Int) < (ys.length : Int) := by omega
            have hpn : (0 : Int) ≤ (pre.length : Int) := by omega
            have hp200 : pre.length < 200 := by omega
            have HLN : Hid (((pre ++ [x]).length : Int) = (pre.length : Int) + 1) := Lib.hid (by simp)
            have HLM : Hid ((pre ++ [x]).length = pre.length + 1) := Lib.hid (by simp)
            obtain ⟨nd, hp⟩ := x
            obtain ⟨zn, zh⟩ := z
            clear h1 h2 hBV hMV hpre hc hc2 hz hlt
            by_cases hx : nd = zn ∧ hp = zh
            · obtain ⟨rfl, rfl⟩ := hx
              have HPP : Hid (pre ++ [⟨nd, hp⟩] <+: ys) := Lib.hid (by
                obtain ⟨q, hq⟩ := HP.out
                have h3 := HZ.out
                have h4 := HLT.out
                subst hq
                rw [List.getElem?_append_right (Nat.le_refl _)] at h3
                cases q with
                | nil => simp at h4
                | cons y q => simp at h3; subst h3; exact ⟨q, by simp⟩)
              have hq : ∀ W, (binOp .neq 25 (.agg #[.int .i64 nd, .int .i64 hp]) (.agg #[.int .i64 nd, .int .i64 hp])).run Try.prog W = .ok (.bool false) W := by
                intro W; rw [own_neq]; simp
              generalize hpl : pre.length = pl at *
              gi_wp2
              refine ⟨(KeepsOthers.setCell _ _ _).from _, keepsBut_set (Bx := fun k => k = W.heap.size) rfl _ _, ⟨⟨⟨⟨?_, (Below.heap_setCell _ _ _ _ (by show T ≠ W.heap.size; omega)).trans H2.out⟩, HV.out.setCell (by show w3.heap.size ≤ W.heap.size; omega) _⟩, HMV.out.set H1.out _ _⟩, HPP.out⟩⟩
              rw [HLN.out]
              exact heap_set (i := 0) (v := .int .i64 ((pl : Int) + 1)) H1.out
            · have e1 : (((zn : Int) == nd) && ((zh : Int) == hp)) = false := by
                by_cases h1 : (zn : Int) = nd
                · have h2 : ¬ (zh : Int) = hp := fun h2 => hx ⟨h1.symm, h2.symm⟩
                  simp [h2]
                · simp [h1]
              have hq : ∀ W, (binOp .neq 25 (.agg #[.int .i64 zn, .int .i64 zh]) (.agg #[.int .i64 nd, .int .i64 hp])).run Try.prog W = .ok (.bool true) W := by
                intro W; rw [own_neq, e1]; rfl
              have HNP : Hid (¬ pre ++ [⟨nd, hp⟩] <+: ys) := Lib.hid (by
                intro h
                obtain ⟨q, hq⟩ := h
                have h3 := HZ.out
                subst hq
                simp at h3
                exact hx ⟨by rw [h3.1], by rw [h3.2]⟩)
              generalize hpl : pre.length = pl at *
              clear hx e1
              gi_wp2
              exact ⟨(KeepsOthers.setCell _ _ _).from _, ⟨rfl, HNP.out⟩⟩
          case done =>
            rintro D ys' V hD rfl ⟨⟨⟨⟨h1, h2⟩, hBV⟩, hMV⟩, -⟩ hD0
            have HV := Lib.hid hBV
            have HMV := Lib.hid hMV
            have HD := Lib.hid hD0
            have hDl := heap_lt hD0
            have BA2 := Lib.hid (heap_call hBV BA.out)
            have KA2 := Lib.hid (heap_call hBV KA.out)
            have b0 : V.cell? ⟨w1.heap.size, 0, none⟩ = some (.slice a1 ys'.length cp1) := cell_of BA2.out 0
            have m1 : V.cell? ⟨w.heap.size + 1, 1, none⟩ = some (.int .i64 many) := cell_of KA2.out 1
            have n0 : V.cell? ⟨W.heap.size, 0, none⟩ = some (.int .i64 (ys'.length : Int)) := cell_of h1 0
            have t0 : V.cell? ⟨T, 0, none⟩ = some (.int .i64 1) := cell_of h2 0
            have hsV := hBV.size
            clear h1 h2 hBV hMV hD0
            go_wp2_with fail
            refine Handed.intro 0 (by omega) (hJ _ _ _ ?_)
            refine ⟨2, _, D + 1, V.heap.size, _, _, _, _, _, _, _, _, _, _, _, _, _, _, _, _, _, _, _, _, _, _, _, _, _, _, _, _, _, _, _, _, _, _, _, _, _, _, _, _, _, _, _, _, _, _, _, _, _, _, _, _, _, _, _, _, _, by omega, rfl, rfl, heap_new rfl, hsV, HV.out.alloc hsV _, ⟨D, rfl, by simp at hD; omega, by omega, heap_old HD.out, (HMV.out.call (below_new _)).mono (by simp at hD; omega)⟩, by simp; omega⟩
          case stop =>
            rintro D cc pre V hD hSp ⟨-, h⟩ hD0
            exact absurd hSp h
        · have c0 : W.cell? ⟨T, 0, none⟩ = some (.int .i64 2) := cell_of hT 0
          have HBW := Lib.hid hB
          have HM := Lib.hid hM
          have BX2 := Lib.hid (heap_call hB BX.out)
          clear hT hB hM
          go_wp2_with fail
          refine (HW.out _).mono ?_
          rintro e w4 ⟨rfl, hb⟩
          have HM4 := Lib.hid (HM.out.call hb)
          have BX4 := Lib.hid (heap_call hb BX2.out)
          have HB4 := Lib.hid (HB3.out.trans ((HBW.out.trans (hb.mono HBW.out.size)).mono HB3.out.size))
          have r0 : w4.cell? ⟨w.heap.size + 1 + 1 + 1, 0, none⟩ = some (.bool false) := cell_of BX4.out 0
          have rf := free_of BX4.out 0
          clear hb
          go_wp2
          refine Marks.leave (HM4.out.set BX4.out 0 (.bool true)) fun W' hb hc => ?_
          have hR := hc _ _ (heap_set (i := 0) (v := .bool true) BX4.out) rfl
          have hcR := cell_of hR 0
          refine ⟨.bool true, by simp [results, Try.results5, go_sem, hcR], rfl, (HB4.out.setCell (by show w.heap.size ≤ w.heap.size + 1 + 1 + 1; omega) _).trans (hb.mono HB3.out.size)⟩
end Go.Proofs.Ytoanpfbdhkgncaa
