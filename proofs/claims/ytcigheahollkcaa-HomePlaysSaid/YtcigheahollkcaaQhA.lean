/- The document's homes: each function answers what its plain function says. -/
import Derived.Test.YtcigheahollkcaaQuA
import Derived.Test.YtcigheahollkcaaSvB
namespace Go.Proofs.Ytcigheahollkcaa
open Go Go.RowKit
set_option linter.unusedVariables false
set_option linter.unusedSimpArgs false
def rwordsS_k1 (e1_5x : List Int) (e1_6 : Int) : Option ((List Int)) :=
 some e1_5x
def rwordsS_l1 (c : CfgS) (line : Int) (k1 : (List Int) → Int → Option ((List Int))) : Nat → (List Int) → Int → Option ((List Int))
 | 0 => fun _ _ => none
 | m + 1 => fun v1_5x v1_6 => (bif decide (v1_6 < c.words) then (bif decide ((wr ((wr (line * c.words)) + v1_6)) < (((List.length c.init) : Nat) : Int)) then chk (0 ≤ (wr ((wr (line * c.words)) + v1_6)) ∧ (wr ((wr (line * c.words)) + v1_6)) < ((c.init.length : Nat) : Int)) (letP ([nth c.init (wr ((wr (line * c.words)) + v1_6))] : List Int) fun l11_2 => chk ((v1_5x ++ l11_2).length ≤ 1099511627776) (letP (v1_5x ++ l11_2) fun l11_3 => chk (inR (v1_6 + (1 : Int))) ((rwordsS_l1 c line k1 m) l11_3 (v1_6 + (1 : Int))))) else letP ([0] : List Int) fun l11_2 => chk ((v1_5x ++ l11_2).length ≤ 1099511627776) (letP (v1_5x ++ l11_2) fun l11_3 => chk (inR (v1_6 + (1 : Int))) ((rwordsS_l1 c line k1 m) l11_3 (v1_6 + (1 : Int))))) else k1 v1_5x v1_6)
def rwordsS_j0 (c : CfgS) (line : Int) (e0_16 : Bool) : Option ((List Int)) :=
 (bif e0_16 then some ([] : List Int) else rwordsS_l1 c line (rwordsS_k1 ) 64 ([] : List Int) 0)
def rwordsS (c : CfgS) (line : Int) : Option ((List Int)) :=
 (bif decide (line < (0 : Int)) then rwordsS_j0 c line true else rwordsS_j0 c line (decide (c.lines ≤ line)))
noncomputable def C33 (p : List Nat) : Code := codeAt (bodyOf Try.f33) p
set_option maxRecDepth 100000 in
set_option maxHeartbeats 8000000 in
theorem RWordsF_tr {W0 : World} {Γ : List Asn} (ca : Option Addr) (ccap : Nat) (c : CfgS) (line : Int) (hrca : Reads W0 Γ ca (ints c.init)) (y : (List Int)) (H : rwordsS c line = some y) : Tr Try.prog 33 #[.agg #[iv c.nodes, iv c.lines, iv c.words, iv c.sets, iv c.ways, iv c.out, iv c.inn, .slice ca (List.length c.init) ccap], iv line] W0 (Γ) (fun r Δ => ∃ (a0_0 : Option Addr) (c0_0 : Nat), r = .slice a0_0 (List.length y) c0_0 ∧ Δ = (IntsA a0_0 c0_0 y) :: Γ) := by
 unfold rwordsS at H
 refine Tr.enter (fn := Try.f33) (c := C33 []) (args := [.agg #[iv c.nodes, iv c.lines, iv c.words, iv c.sets, iv c.ways, iv c.out, iv c.inn, .slice ca (List.length c.init) ccap], iv line]) 44 Try.func33 kf kf ?_
 refine ae [(0, .agg #[iv c.nodes, iv c.lines, iv c.words, iv c.sets, iv c.ways, iv c.out, iv c.inn, .slice ca (List.length c.init) ccap]), (1, iv line)] ?_
 refine aq (x := C33 [0]) (y := C33 [1]) ?_
 refine ar (id := 0) 2 ?_
 refine s_step 2 kf kf (st_new (T := 26) (cells := #[iv c.nodes, iv c.lines, iv c.words, iv c.sets, iv c.ways, iv c.out, iv c.inn, .slice ca (List.length c.init) ccap]) (fun a => .pointer (some a)) (fun _ => kf)) ?_
 rintro _ _ ⟨b0_0, rfl, rfl⟩
 refine sp 4 (.slice none 0 0) ?_
 refine ops_end ?_
 refine ae [(1, iv line), (2, .pointer (some ⟨b0_0, 0, none⟩))] ?_
 refine at_then_normal ?_
 refine aq (x := C33 [1,0]) (y := C33 [1,1]) ?_
 refine at_seq_join (x := C33 [1,0,0]) (y := C33 [1,0,1]) (fun ff ΔΔ => ∃ (e0_16 : Bool), rwordsS_j0 c line e0_16 = some y ∧ ff = [(1, iv line), (2, .pointer (some ⟨b0_0, 0, none⟩)), (16, .bool e0_16)] ∧ (Asn.own b0_0 (.cells #[iv c.nodes, iv c.lines, iv c.words, iv c.sets, iv c.ways, iv c.out, iv c.inn, .slice ca (List.length c.init) ccap] 26 (0, 0))) :: Γ = ΔΔ) kf ?_ ?_
 ·rintro _ _ ⟨e0_16, H, rfl, rfl⟩
  rw [rwordsS_j0] at H
  rcases Bool.eq_false_or_eq_true (e0_16) with h1 | h1
  ·replace H := bifT H h1
   refine at_true (t := e0_16) (x := C33 [1,0,1,0]) (y := C33 [1,0,1,1]) (o := .tmp 16) kf kf kf h1 ?_
   refine aq (x := C33 [1,0,1,0,0]) (y := C33 [1,0,1,0,1]) ?_
   refine ar (id := 2) 1 ?_
   refine sp 4 (.slice none 0 0) ?_
   refine ops_end ?_
   refine ae [(4, .slice none 0 0)] ?_
   refine at_then_normal ?_
   refine at_ret kf ?_
   refine at_then_ret ?_
   obtain rfl := someE H
   refine at_backR [.slice none 0 0] ((IntsA none 0 ([] : List Int)) :: Γ) (rs := [.tmp 4]) kf (.cons (.tmp kf) .nil) (fun w hw => (Sat.less (.take .here (.drop .here .refl)) (RowsA.none_mk (k := 1) (a := none) hw))) ?_
   exact ⟨none, 0, rfl, rfl⟩
  ·replace H := bifF H h1
   refine at_false (t := e0_16) (x := C33 [1,0,1,0]) (y := C33 [1,0,1,1]) (o := .tmp 16) kf kf kf h1 ?_
   refine at_skip kf ?_
   refine at_then_normal ?_
   refine aq (x := C33 [1,1,0]) (y := C33 [1,1,1]) ?_
   refine ar (id := 3) 1 ?_
   refine sp 5 (.slice none 0 0) ?_
   refine ops_end ?_
   refine ae [(1, iv line), (2, .pointer (some ⟨b0_0, 0, none⟩)), (5, .slice none 0 0)] ?_
   refine at_then_normal ?_
   refine aq (x := C33 [1,1,1,0]) (y := C33 [1,1,1,1]) ?_
   refine aq (x := C33 [1,1,1,0,0]) (y := C33 [1,1,1,0,1]) ?_
   refine ar (id := 4) 1 ?_
   refine sp 6 (iv (0)) ?_
   refine ops_end ?_
   refine ae [(1, iv line), (2, .pointer (some ⟨b0_0, 0, none⟩)), (5, .slice none 0 0), (6, iv (0))] ?_
   refine at_then_normal ?_
   refine at_block (i := 0) (x := C33 [1,1,1,0,1,0]) kf ?_
   refine At.conv (Γ' := (IntsA none 0 ([] : List Int)) :: (Asn.own b0_0 (.cells #[iv c.nodes, iv c.lines, iv c.words, iv c.sets, iv c.ways, iv c.out, iv c.inn, .slice ca (List.length c.init) ccap] 26 (0, 0))) :: Γ) (fun w hw => (Sat.less (.take .here (.take .here .refl)) (RowsA.none_mk (k := 1) (a := none) hw))) ?_
   refine at_loopR (x := C33 [1,1,1,0,1,0,0]) (fun mm ff ΔΔ => ∃ (fuel : Nat) (v1_5x : List Int) (v1_6 : Int) (v1_5a : Option Addr) (v1_5c : Nat), rwordsS_l1 c line (rwordsS_k1 ) fuel v1_5x v1_6 = some y ∧ fuel = mm ∧ ff = [(1, iv line), (2, .pointer (some ⟨b0_0, 0, none⟩)), (5, .slice v1_5a (List.length v1_5x) v1_5c), (6, iv v1_6)] ∧ (IntsA v1_5a v1_5c v1_5x) :: (Asn.own b0_0 (.cells #[iv c.nodes, iv c.lines, iv c.words, iv c.sets, iv c.ways, iv c.out, iv c.inn, .slice ca (List.length c.init) ccap] 26 (0, 0))) :: Γ = ΔΔ) (64) kf [(1, iv line), (2, .pointer (some ⟨b0_0, 0, none⟩)), (5, .slice none (List.length ([] : List Int)) 0), (6, iv 0)] ⟨kf, kf, kf, kf, trivial⟩ ⟨64, ([] : List Int), 0, none, 0, H, rfl, rfl, rfl⟩ ?_
   rintro _ _ _ ⟨fuel1, v1_5x, v1_6, v1_5a, v1_5c, H, rfl, rfl, rfl⟩
   rcases fuel1 with _ | fuel1
   ·exact (noneE H).elim
   rw [rwordsS_l1] at H
   refine aq (x := C33 [1,1,1,0,1,0,0,0]) (y := C33 [1,1,1,0,1,0,0,1]) ?_
   refine aq (x := C33 [1,1,1,0,1,0,0,0,0]) (y := C33 [1,1,1,0,1,0,0,0,1]) ?_
   refine ar (id := 5) 4 ?_
   refine sp 17 (iv v1_6) ?_
   refine sp 18 (.pointer (some ⟨b0_0, 2, none⟩)) ?_
   refine sl 19 (iv c.words) (load1 (off := 2) (fun _ => kf) (holds_own (.there .here)) kf) ?_
   refine sp 20 (.bool (decide (v1_6 < c.words))) ?_
   refine ops_end ?_
   refine ae [(1, iv line), (2, .pointer (some ⟨b0_0, 0, none⟩)), (5, .slice v1_5a (List.length v1_5x) v1_5c), (6, iv v1_6), (20, .bool (decide (v1_6 < c.words)))] ?_
   refine at_then_normal ?_
   rcases Bool.eq_false_or_eq_true (decide (v1_6 < c.words)) with h2 | h2
   ·replace H := bifT H h2
    refine at_true (t := decide (v1_6 < c.words)) (x := C33 [1,1,1,0,1,0,0,0,1,0]) (y := C33 [1,1,1,0,1,0,0,0,1,1]) (o := .tmp 20) kf kf kf h2 ?_
    refine at_skip kf ?_
    refine at_then_normal ?_
    refine aq (x := C33 [1,1,1,0,1,0,0,1,0]) (y := C33 [1,1,1,0,1,0,0,1,1]) ?_
    refine at_block (i := 1) (x := C33 [1,1,1,0,1,0,0,1,0,0]) kf ?_
    refine aq (x := C33 [1,1,1,0,1,0,0,1,0,0,0]) (y := C33 [1,1,1,0,1,0,0,1,0,0,1]) ?_
    refine ar (id := 7) 1 ?_
    refine sp 7 (iv (0)) ?_
    refine ops_end ?_
    refine ae [(1, iv line), (2, .pointer (some ⟨b0_0, 0, none⟩)), (5, .slice v1_5a (List.length v1_5x) v1_5c), (6, iv v1_6), (7, iv (0))] ?_
    refine at_then_normal ?_
    refine aq (x := C33 [1,1,1,0,1,0,0,1,0,0,1,0]) (y := C33 [1,1,1,0,1,0,0,1,0,0,1,1]) ?_
    refine aq (x := C33 [1,1,1,0,1,0,0,1,0,0,1,0,0]) (y := C33 [1,1,1,0,1,0,0,1,0,0,1,0,1]) ?_
    refine ar (id := 8) 7 ?_
    refine sp 23 (iv line) ?_
    refine sp 24 (.pointer (some ⟨b0_0, 2, none⟩)) ?_
    refine sl 25 (iv c.words) (load1 (off := 2) (fun _ => kf) (holds_own (.there .here)) kf) ?_
    refine sp 26 (iv (wr (line * c.words))) ?_
    refine sp 27 (iv v1_6) ?_
    refine sp 28 (iv (wr ((wr (line * c.words)) + v1_6))) ?_
    refine sp 8 (iv (wr ((wr (line * c.words)) + v1_6))) ?_
    refine ops_end ?_
    refine ae [(1, iv line), (2, .pointer (some ⟨b0_0, 0, none⟩)), (5, .slice v1_5a (List.length v1_5x) v1_5c), (6, iv v1_6), (7, iv (0)), (8, iv (wr ((wr (line * c.words)) + v1_6)))] ?_
    refine at_then_normal ?_
    refine aq (x := C33 [1,1,1,0,1,0,0,1,0,0,1,0,1,0]) (y := C33 [1,1,1,0,1,0,0,1,0,0,1,0,1,1]) ?_
    refine ar (id := 9) 5 ?_
    refine sp 29 (iv (wr ((wr (line * c.words)) + v1_6))) ?_
    refine sp 30 (.pointer (some ⟨b0_0, 7, none⟩)) ?_
    refine sl 31 (.slice ca (List.length c.init) ccap) (load1 (off := 7) (fun _ => kf) (holds_own (.there .here)) kf) ?_
    refine sp 32 (iv (((List.length c.init) : Nat) : Int)) ?_
    refine sp 33 (.bool (decide ((wr ((wr (line * c.words)) + v1_6)) < (((List.length c.init) : Nat) : Int)))) ?_
    refine ops_end ?_
    refine ae [(1, iv line), (2, .pointer (some ⟨b0_0, 0, none⟩)), (5, .slice v1_5a (List.length v1_5x) v1_5c), (6, iv v1_6), (7, iv (0)), (8, iv (wr ((wr (line * c.words)) + v1_6))), (33, .bool (decide ((wr ((wr (line * c.words)) + v1_6)) < (((List.length c.init) : Nat) : Int))))] ?_
    refine at_then_normal ?_
    rcases Bool.eq_false_or_eq_true (decide ((wr ((wr (line * c.words)) + v1_6)) < (((List.length c.init) : Nat) : Int))) with h3 | h3
    ·replace H := bifT H h3
     refine at_true (t := decide ((wr ((wr (line * c.words)) + v1_6)) < (((List.length c.init) : Nat) : Int))) (x := C33 [1,1,1,0,1,0,0,1,0,0,1,0,1,1,0]) (y := C33 [1,1,1,0,1,0,0,1,0,0,1,0,1,1,1]) (o := .tmp 33) kf kf kf h3 ?_
     refine ar (id := 10) 6 ?_
     refine sp 34 (.pointer (some ⟨b0_0, 7, none⟩)) ?_
     refine sl 35 (.slice ca (List.length c.init) ccap) (load1 (off := 7) (fun _ => kf) (holds_own (.there .here)) kf) ?_
     refine sp 36 (iv (wr ((wr (line * c.words)) + v1_6))) ?_
     obtain ⟨hc10_3_0, H⟩ := chkE H
     refine reads_at (Reads.conv (fun w hw => hw.less (.drop .here (.drop .here .refl))) hrca) (by have := hc10_3_0; omega) ?_
     intro bb1 oo1 ha1
     refine sr 37 (.pointer (some ⟨bb1, oo1 + (((wr ((wr (line * c.words)) + v1_6))).toNat * 1 + 0), none⟩)) (index_at (t := 22) (sz := 1) (E := 3) (a := ca) (m := (List.length c.init)) (c := ccap) (b := bb1) (off := oo1) (i := ((wr ((wr (line * c.words)) + v1_6))).toNat) (tinfo 3) (fun _ => kf) kf kf kf ha1 (idx_cast hc10_3_0) (idx_nat hc10_3_0) rfl) ?_
     refine sl 38 (iv (nth c.init (wr ((wr (line * c.words)) + v1_6)))) (load1_at (off := oo1 + (((wr ((wr (line * c.words)) + v1_6))).toNat * 1 + 0)) (v := iv (nth c.init (wr ((wr (line * c.words)) + v1_6)))) (fun _ => kf) rfl (reads_cell (k := 1) (Reads.conv (fun w hw => hw.less (.drop .here (.drop .here .refl))) hrca) (ints_rows _) ha1 (nth_row hc10_3_0) (show [(iv (nth c.init (wr ((wr (line * c.words)) + v1_6))) : Value)][0]? = some _ from rfl))) ?_
     refine sp 7 (iv (nth c.init (wr ((wr (line * c.words)) + v1_6)))) ?_
     refine ops_end ?_
     refine ae [(1, iv line), (2, .pointer (some ⟨b0_0, 0, none⟩)), (5, .slice v1_5a (List.length v1_5x) v1_5c), (6, iv v1_6), (7, iv (nth c.init (wr ((wr (line * c.words)) + v1_6))))] ?_
     refine at_then_normal ?_
     refine ar (id := 11) 5 ?_
     refine sp 39 (.slice v1_5a (List.length v1_5x) v1_5c) ?_
     refine sp 40 (iv (nth c.init (wr ((wr (line * c.words)) + v1_6)))) ?_
     obtain ⟨l11_2, hl11_2, H⟩ := letE H
     refine s_step 41 kf kf (st_new_ints (T := 3) (xs := l11_2) 1 hl11_2 (fun _ => kf) kf) ?_
     rintro _ _ ⟨b11_2, rfl, rfl⟩
     obtain ⟨hc11_3_0, H⟩ := chkE H
     obtain ⟨l11_3, hl11_3, H⟩ := letE H
     refine s_step 42 kf kf (st_append_ints (xs := v1_5x) (ys := l11_2) (zs := l11_3) (m1 := (List.length v1_5x)) (m2 := (List.length l11_2)) (m := List.length l11_3) (cap2 := 1) 22 22 3 (tinfo 3) (fun _ => kf) kf kf kf kf kf (.there .here) (RowsA.reads (k := 1) .here) (by first | rfl | simp) (by first | rfl | simp) (by rw [← hl11_3]; first | done | simp) (by rw [← hl11_3]; first | done | simp) (by rw [← hl11_3]; exact hc11_3_0)) ?_
     rintro _ _ ⟨a11_3, c11_3, rfl, rfl⟩
     refine sp 5 (.slice a11_3 (List.length l11_3) c11_3) ?_
     refine ops_end ?_
     refine ae [(1, iv line), (2, .pointer (some ⟨b0_0, 0, none⟩)), (5, .slice a11_3 (List.length l11_3) c11_3), (6, iv v1_6)] ?_
     refine at_in_normal ?_
     refine at_then_normal ?_
     refine ar (id := 6) 3 ?_
     refine sp 21 (iv v1_6) ?_
     obtain ⟨hc6_1_0, H⟩ := chkE H
     refine sr 22 (iv (v1_6 + (1 : Int))) (run_eq (v := iv (IntKind.i64.wrap (v1_6 + (1 : Int)))) (fun _ => kf) (by rw [inR.wrap hc6_1_0])) ?_
     refine sp 6 (iv (v1_6 + (1 : Int))) ?_
     refine ops_end ?_
     refine ae [(1, iv line), (2, .pointer (some ⟨b0_0, 0, none⟩)), (5, .slice a11_3 (List.length l11_3) c11_3), (6, iv (v1_6 + (1 : Int)))] ?_
     refine at_round_normal ?_
     exact at_roundR fuel1 [(1, iv line), (2, .pointer (some ⟨b0_0, 0, none⟩)), (5, .slice a11_3 (List.length l11_3) c11_3), (6, iv (v1_6 + (1 : Int)))] ((IntsA a11_3 c11_3 l11_3) :: (Asn.own b0_0 (.cells #[iv c.nodes, iv c.lines, iv c.words, iv c.sets, iv c.ways, iv c.out, iv c.inn, .slice ca (List.length c.init) ccap] 26 (0, 0))) :: Γ) (Nat.lt_succ_self _) ⟨kf, kf, kf, kf, trivial⟩ (fun w hw => (Sat.less (.take .here (.take (.there .here) (.drop .here .refl))) hw)) ⟨fuel1, l11_3, v1_6 + (1 : Int), a11_3, c11_3, H, rfl, rfl, rfl⟩
    ·replace H := bifF H h3
     refine at_false (t := decide ((wr ((wr (line * c.words)) + v1_6)) < (((List.length c.init) : Nat) : Int))) (x := C33 [1,1,1,0,1,0,0,1,0,0,1,0,1,1,0]) (y := C33 [1,1,1,0,1,0,0,1,0,0,1,0,1,1,1]) (o := .tmp 33) kf kf kf h3 ?_
     refine at_skip kf ?_
     refine at_then_normal ?_
     refine ar (id := 11) 5 ?_
     refine sp 39 (.slice v1_5a (List.length v1_5x) v1_5c) ?_
     refine sp 40 (iv (0)) ?_
     obtain ⟨l11_2, hl11_2, H⟩ := letE H
     refine s_step 41 kf kf (st_new_ints (T := 3) (xs := l11_2) 1 hl11_2 (fun _ => kf) kf) ?_
     rintro _ _ ⟨b11_2, rfl, rfl⟩
     obtain ⟨hc11_3_0, H⟩ := chkE H
     obtain ⟨l11_3, hl11_3, H⟩ := letE H
     refine s_step 42 kf kf (st_append_ints (xs := v1_5x) (ys := l11_2) (zs := l11_3) (m1 := (List.length v1_5x)) (m2 := (List.length l11_2)) (m := List.length l11_3) (cap2 := 1) 22 22 3 (tinfo 3) (fun _ => kf) kf kf kf kf kf (.there .here) (RowsA.reads (k := 1) .here) (by first | rfl | simp) (by first | rfl | simp) (by rw [← hl11_3]; first | done | simp) (by rw [← hl11_3]; first | done | simp) (by rw [← hl11_3]; exact hc11_3_0)) ?_
     rintro _ _ ⟨a11_3, c11_3, rfl, rfl⟩
     refine sp 5 (.slice a11_3 (List.length l11_3) c11_3) ?_
     refine ops_end ?_
     refine ae [(1, iv line), (2, .pointer (some ⟨b0_0, 0, none⟩)), (5, .slice a11_3 (List.length l11_3) c11_3), (6, iv v1_6)] ?_
     refine at_in_normal ?_
     refine at_then_normal ?_
     refine ar (id := 6) 3 ?_
     refine sp 21 (iv v1_6) ?_
     obtain ⟨hc6_1_0, H⟩ := chkE H
     refine sr 22 (iv (v1_6 + (1 : Int))) (run_eq (v := iv (IntKind.i64.wrap (v1_6 + (1 : Int)))) (fun _ => kf) (by rw [inR.wrap hc6_1_0])) ?_
     refine sp 6 (iv (v1_6 + (1 : Int))) ?_
     refine ops_end ?_
     refine ae [(1, iv line), (2, .pointer (some ⟨b0_0, 0, none⟩)), (5, .slice a11_3 (List.length l11_3) c11_3), (6, iv (v1_6 + (1 : Int)))] ?_
     refine at_round_normal ?_
     exact at_roundR fuel1 [(1, iv line), (2, .pointer (some ⟨b0_0, 0, none⟩)), (5, .slice a11_3 (List.length l11_3) c11_3), (6, iv (v1_6 + (1 : Int)))] ((IntsA a11_3 c11_3 l11_3) :: (Asn.own b0_0 (.cells #[iv c.nodes, iv c.lines, iv c.words, iv c.sets, iv c.ways, iv c.out, iv c.inn, .slice ca (List.length c.init) ccap] 26 (0, 0))) :: Γ) (Nat.lt_succ_self _) ⟨kf, kf, kf, kf, trivial⟩ (fun w hw => (Sat.less (.take .here (.take (.there .here) (.drop .here .refl))) hw)) ⟨fuel1, l11_3, v1_6 + (1 : Int), a11_3, c11_3, H, rfl, rfl, rfl⟩
   ·replace H := bifF H h2
    refine at_false (t := decide (v1_6 < c.words)) (x := C33 [1,1,1,0,1,0,0,0,1,0]) (y := C33 [1,1,1,0,1,0,0,0,1,1]) (o := .tmp 20) kf kf kf h2 ?_
    refine at_exit (i := 0) kf ?_
    refine at_then_exit ?_
    refine at_then_exit ?_
    rw [rwordsS_k1] at H
    refine ae [(1, iv line), (2, .pointer (some ⟨b0_0, 0, none⟩)), (5, .slice v1_5a (List.length v1_5x) v1_5c), (6, iv v1_6)] ?_
    refine At.conv (Γ' := (IntsA v1_5a v1_5c v1_5x) :: (Asn.own b0_0 (.cells #[iv c.nodes, iv c.lines, iv c.words, iv c.sets, iv c.ways, iv c.out, iv c.inn, .slice ca (List.length c.init) ccap] 26 (0, 0))) :: Γ) (fun w hw => (Sat.less (.take .here (.take .here .refl)) hw)) ?_
    refine at_in_here ?_
    refine at_then_normal ?_
    refine aq (x := C33 [1,1,1,1,0]) (y := C33 [1,1,1,1,1]) ?_
    refine ar (id := 12) 2 ?_
    refine sp 43 (.slice v1_5a (List.length v1_5x) v1_5c) ?_
    refine sp 4 (.slice v1_5a (List.length v1_5x) v1_5c) ?_
    refine ops_end ?_
    refine ae [(4, .slice v1_5a (List.length v1_5x) v1_5c)] ?_
    refine at_then_normal ?_
    refine at_ret kf ?_
    obtain rfl := someE H
    refine at_backR [.slice v1_5a (List.length v1_5x) v1_5c] ((IntsA v1_5a v1_5c v1_5x) :: Γ) (rs := [.tmp 4]) kf (.cons (.tmp kf) .nil) (fun w hw => (Sat.less (.take .here (.drop .here .refl)) hw)) ?_
    exact ⟨v1_5a, v1_5c, rfl, rfl⟩
 ·refine ar (id := 1) 8 ?_
  refine sp 9 (iv line) ?_
  refine sp 10 (.bool (decide (line < (0 : Int)))) ?_
  rcases Bool.eq_false_or_eq_true (decide (line < (0 : Int))) with h4 | h4
  ·replace H := bifT H h4
   refine sr 11 (.bool true) (run_eq (v := .bool (decide (line < (0 : Int)))) (fun _ => kf) (congrArg Value.bool h4)) ?_
   refine sa 12 ?_
   refine sa 13 ?_
   refine sa 14 ?_
   refine sa 15 ?_
   refine sp 16 (.bool true) ?_
   refine ops_end ?_
   refine ae [(1, iv line), (2, .pointer (some ⟨b0_0, 0, none⟩)), (16, .bool true)] ?_
   refine at_round_normal ?_
   exact at_join_mk [(1, iv line), (2, .pointer (some ⟨b0_0, 0, none⟩)), (16, .bool true)] ((Asn.own b0_0 (.cells #[iv c.nodes, iv c.lines, iv c.words, iv c.sets, iv c.ways, iv c.out, iv c.inn, .slice ca (List.length c.init) ccap] 26 (0, 0))) :: Γ) ⟨kf, kf, kf, trivial⟩ (fun w hw => (Sat.less (.take .here .refl) hw)) ⟨true, H, rfl, rfl⟩
  ·replace H := bifF H h4
   refine sr 11 (.bool false) (run_eq (v := .bool (decide (line < (0 : Int)))) (fun _ => kf) (congrArg Value.bool h4)) ?_
   refine sp 12 (iv line) ?_
   refine sp 13 (.pointer (some ⟨b0_0, 1, none⟩)) ?_
   refine sl 14 (iv c.lines) (load1 (off := 1) (fun _ => kf) (holds_own .here) kf) ?_
   refine sp 15 (.bool (decide (c.lines ≤ line))) ?_
   refine sp 16 (.bool (decide (c.lines ≤ line))) ?_
   refine ops_end ?_
   refine ae [(1, iv line), (2, .pointer (some ⟨b0_0, 0, none⟩)), (16, .bool (decide (c.lines ≤ line)))] ?_
   refine at_round_normal ?_
   exact at_join_mk [(1, iv line), (2, .pointer (some ⟨b0_0, 0, none⟩)), (16, .bool (decide (c.lines ≤ line)))] ((Asn.own b0_0 (.cells #[iv c.nodes, iv c.lines, iv c.words, iv c.sets, iv c.ways, iv c.out, iv c.inn, .slice ca (List.length c.init) ccap] 26 (0, 0))) :: Γ) ⟨kf, kf, kf, trivial⟩ (fun w hw => (Sat.less (.take .here .refl) hw)) ⟨decide (c.lines ≤ line), H, rfl, rfl⟩
def snewS_k0 (e0_6 : Int) (e0_b1_3 : HomesS) : Option (HomesS) :=
 some e0_b1_3
def snewS_l0 (c : CfgS) (node : Int) (k0 : Int → HomesS → Option (HomesS)) : Nat → Int → HomesS → Option (HomesS)
 | 0 => fun _ _ => none
 | m + 1 => fun v0_6 v0_b1_3 => (bif decide (v0_6 < c.lines) then (rwordsS c v0_6).bind fun y5_7 => chk ((v0_b1_3.r ++ ([(⟨0, (-1), y5_7⟩ : RowS)])).length ≤ 1099511627776) (letP (v0_b1_3.r ++ ([(⟨0, (-1), y5_7⟩ : RowS)])) fun l5_10 => chk (inR (v0_6 + (1 : Int))) ((snewS_l0 c node k0 m) (v0_6 + (1 : Int)) ({ c := v0_b1_3.c, node := v0_b1_3.node, r := l5_10, owner := v0_b1_3.owner, wait := v0_b1_3.wait } : HomesS))) else k0 v0_6 v0_b1_3)
def snewS (c : CfgS) (node : Int) : Option (HomesS) :=
 snewS_l0 c node (snewS_k0 ) 64 0 ({ c := c, node := node, r := ([] : List RowS), owner := ([] : List (List Int)), wait := ([] : List (List Int)) } : HomesS)
noncomputable def C15 (p : List Nat) : Code := codeAt (bodyOf Try.f15) p
set_option maxRecDepth 100000 in
set_option maxHeartbeats 8000000 in
theorem SNewF_tr {W0 : World} {Γ : List Asn} (ca : Option Addr) (ccap : Nat) (c : CfgS) (node : Int)  (y : HomesS) (H : snewS c node = some y) : Tr Try.prog 15 #[.agg #[iv c.nodes, iv c.lines, iv c.words, iv c.sets, iv c.ways, iv c.out, iv c.inn, .slice ca (List.length c.init) ccap], iv node] W0 ((ImmI ca c.init) :: Γ) (fun r Δ => ∃ (b0 : Nat), r = .pointer (some ⟨b0, 0, none⟩) ∧ Δ = (HomesA b0 y) :: Γ) := by
 unfold snewS at H
 refine Tr.enter (fn := Try.f15) (c := C15 []) (args := [.agg #[iv c.nodes, iv c.lines, iv c.words, iv c.sets, iv c.ways, iv c.out, iv c.inn, .slice ca (List.length c.init) ccap], iv node]) 31 Try.func15 kf kf ?_
 refine ae [(0, .agg #[iv c.nodes, iv c.lines, iv c.words, iv c.sets, iv c.ways, iv c.out, iv c.inn, .slice ca (List.length c.init) ccap]), (1, iv node)] ?_
 refine aq (x := C15 [0]) (y := C15 [1]) ?_
 refine ar (id := 0) 2 ?_
 refine s_step 2 kf kf (st_new (T := 26) (cells := #[iv c.nodes, iv c.lines, iv c.words, iv c.sets, iv c.ways, iv c.out, iv c.inn, .slice ca (List.length c.init) ccap]) (fun a => .pointer (some a)) (fun _ => kf)) ?_
 rintro _ _ ⟨b0_0, rfl, rfl⟩
 refine sp 4 (.pointer none) ?_
 refine ops_end ?_
 refine ae [(1, iv node), (2, .pointer (some ⟨b0_0, 0, none⟩))] ?_
 refine at_then_normal ?_
 refine aq (x := C15 [1,0]) (y := C15 [1,1]) ?_
 refine ar (id := 1) 5 ?_
 refine sl 7 (.agg #[iv c.nodes, iv c.lines, iv c.words, iv c.sets, iv c.ways, iv c.out, iv c.inn, .slice ca (List.length c.init) ccap]) (loadN (off := 0) (vs := [iv c.nodes, iv c.lines, iv c.words, iv c.sets, iv c.ways, iv c.out, iv c.inn, .slice ca (List.length c.init) ccap]) 8 (fun _ => kf) (holds_own .here) rfl (by exact ⟨rfl, rfl, rfl, rfl, rfl, rfl, rfl, rfl, trivial⟩)) ?_
 refine sp 8 (iv node) ?_
 refine sp 9 (.agg #[iv c.nodes, iv c.lines, iv c.words, iv c.sets, iv c.ways, iv c.out, iv c.inn, .slice ca (List.length c.init) ccap, iv node, .slice none 0 0, .slice none 0 0, .slice none 0 0]) ?_
 refine s_step 10 kf kf (st_new (T := 60) (cells := #[iv c.nodes, iv c.lines, iv c.words, iv c.sets, iv c.ways, iv c.out, iv c.inn, .slice ca (List.length c.init) ccap, iv node, .slice none 0 0, .slice none 0 0, .slice none 0 0]) (fun a => .pointer (some a)) (fun _ => kf)) ?_
 rintro _ _ ⟨b1_3, rfl, rfl⟩
 refine sp 5 (.pointer (some ⟨b1_3, 0, none⟩)) ?_
 refine ops_end ?_
 refine ae [(2, .pointer (some ⟨b0_0, 0, none⟩)), (5, .pointer (some ⟨b1_3, 0, none⟩))] ?_
 refine at_then_normal ?_
 refine At.conv (Γ' := (HomesXA b1_3 (⟨ca, ccap, none, 0, ([] : List (List Value)), none, 0, none, 0, 60⟩ : HomesXP) ({ c := c, node := node, r := ([] : List RowS), owner := ([] : List (List Int)), wait := ([] : List (List Int)) } : HomesS)) :: (ImmI ca c.init) :: (Asn.own b0_0 (.cells #[iv c.nodes, iv c.lines, iv c.words, iv c.sets, iv c.ways, iv c.out, iv c.inn, .slice ca (List.length c.init) ccap] 26 (0, 0))) :: Γ) (fun w hw => HomesXA.close (x := (⟨ca, ccap, none, 0, ([] : List (List Value)), none, 0, none, 0, 60⟩ : HomesXP)) (t := ({ c := c, node := node, r := ([] : List RowS), owner := ([] : List (List Int)), wait := ([] : List (List Int)) } : HomesS)) (Sat.less (.take (.there (.there (.there (.there (.there .here))))) (.take (.there (.there (.there .here))) (.take (.there (.there .here)) (.take (.there .here) (.take .here (.take .here (.take .here .refl))))))) (RowsA.none_mk (k := 3) (a := none) (RowsA.none_mk (k := 2) (a := none) (RecsX.nil (α := RowS) (a := none) (ImmR.dup (Sat.less (.take (.there (.there .here)) (.take .here (.take .here .refl))) hw))))))) ?_
 refine At.conv (Γ' := (HomesA b1_3 ({ c := c, node := node, r := ([] : List RowS), owner := ([] : List (List Int)), wait := ([] : List (List Int)) } : HomesS)) :: (ImmI ca c.init) :: (Asn.own b0_0 (.cells #[iv c.nodes, iv c.lines, iv c.words, iv c.sets, iv c.ways, iv c.out, iv c.inn, .slice ca (List.length c.init) ccap] 26 (0, 0))) :: Γ) (fun w hw => HomesXA.shut (hw.pull .here)) ?_
 refine aq (x := C15 [1,1,0]) (y := C15 [1,1,1]) ?_
 refine aq (x := C15 [1,1,0,0]) (y := C15 [1,1,0,1]) ?_
 refine ar (id := 2) 1 ?_
 refine sp 6 (iv (0)) ?_
 refine ops_end ?_
 refine ae [(2, .pointer (some ⟨b0_0, 0, none⟩)), (5, .pointer (some ⟨b1_3, 0, none⟩)), (6, iv (0))] ?_
 refine at_then_normal ?_
 refine at_block (i := 0) (x := C15 [1,1,0,1,0]) kf ?_
 refine At.conv (Γ' := (HomesA b1_3 ({ c := c, node := node, r := ([] : List RowS), owner := ([] : List (List Int)), wait := ([] : List (List Int)) } : HomesS)) :: (ImmI ca c.init) :: (Asn.own b0_0 (.cells #[iv c.nodes, iv c.lines, iv c.words, iv c.sets, iv c.ways, iv c.out, iv c.inn, .slice ca (List.length c.init) ccap] 26 (0, 0))) :: Γ) (fun w hw => (Sat.less (.take .here (.take .here (.take .here .refl))) hw)) ?_
 refine at_loopR (x := C15 [1,1,0,1,0,0]) (fun mm ff ΔΔ => ∃ (fuel : Nat) (v0_6 : Int) (v0_b1_3 : HomesS), snewS_l0 c node (snewS_k0 ) fuel v0_6 v0_b1_3 = some y ∧ fuel = mm ∧ ff = [(2, .pointer (some ⟨b0_0, 0, none⟩)), (5, .pointer (some ⟨b1_3, 0, none⟩)), (6, iv v0_6)] ∧ (HomesA b1_3 v0_b1_3) :: (ImmI ca c.init) :: (Asn.own b0_0 (.cells #[iv c.nodes, iv c.lines, iv c.words, iv c.sets, iv c.ways, iv c.out, iv c.inn, .slice ca (List.length c.init) ccap] 26 (0, 0))) :: Γ = ΔΔ) (64) kf [(2, .pointer (some ⟨b0_0, 0, none⟩)), (5, .pointer (some ⟨b1_3, 0, none⟩)), (6, iv 0)] ⟨kf, kf, kf, trivial⟩ ⟨64, 0, ({ c := c, node := node, r := ([] : List RowS), owner := ([] : List (List Int)), wait := ([] : List (List Int)) } : HomesS), H, rfl, rfl, rfl⟩ ?_
 rintro _ _ _ ⟨fuel1, v0_6, v0_b1_3, H, rfl, rfl, rfl⟩
 rcases fuel1 with _ | fuel1
 ·exact (noneE H).elim
 rw [snewS_l0] at H
 refine aq (x := C15 [1,1,0,1,0,0,0]) (y := C15 [1,1,0,1,0,0,1]) ?_
 refine aq (x := C15 [1,1,0,1,0,0,0,0]) (y := C15 [1,1,0,1,0,0,0,1]) ?_
 refine ar (id := 3) 4 ?_
 refine sp 11 (iv v0_6) ?_
 refine sp 12 (.pointer (some ⟨b0_0, 1, none⟩)) ?_
 refine sl 13 (iv c.lines) (load1 (off := 1) (fun _ => kf) (holds_own (.there (.there .here))) kf) ?_
 refine sp 14 (.bool (decide (v0_6 < c.lines))) ?_
 refine ops_end ?_
 refine ae [(2, .pointer (some ⟨b0_0, 0, none⟩)), (5, .pointer (some ⟨b1_3, 0, none⟩)), (6, iv v0_6), (14, .bool (decide (v0_6 < c.lines)))] ?_
 refine at_then_normal ?_
 rcases Bool.eq_false_or_eq_true (decide (v0_6 < c.lines)) with h1 | h1
 ·replace H := bifT H h1
  refine at_true (t := decide (v0_6 < c.lines)) (x := C15 [1,1,0,1,0,0,0,1,0]) (y := C15 [1,1,0,1,0,0,0,1,1]) (o := .tmp 14) kf kf kf h1 ?_
  refine at_skip kf ?_
  refine at_then_normal ?_
  refine aq (x := C15 [1,1,0,1,0,0,1,0]) (y := C15 [1,1,0,1,0,0,1,1]) ?_
  refine at_block (i := 1) (x := C15 [1,1,0,1,0,0,1,0,0]) kf ?_
  refine at_region_draw (id := 5) kf kf ?_
  refine dp 0 17 (.pointer (some ⟨b1_3, 0, none⟩)) ?_
  refine dp 1 18 (.pointer (some ⟨b1_3, 0, none⟩)) ?_
  refine dp 2 19 (.pointer (some ⟨b1_3, 0, none⟩)) ?_
  refine dp 3 20 (.pointer (some ⟨b1_3, 9, none⟩)) ?_
  refine HomesA.tox_draw .here ?_
  intro x5_4_b1_3
  refine HomesXA.open_draw .here ?_
  refine dl 4 21 (.slice x5_4_b1_3.a9 (List.length v0_b1_3.r) x5_4_b1_3.c9) (load1 (off := 9) (fun _ => kf) (holds_own .here) kf) ?_
  refine dl 5 22 (.agg #[iv c.nodes, iv c.lines, iv c.words, iv c.sets, iv c.ways, iv c.out, iv c.inn, .slice ca (List.length c.init) ccap]) (loadN (off := 0) (vs := [iv c.nodes, iv c.lines, iv c.words, iv c.sets, iv c.ways, iv c.out, iv c.inn, .slice ca (List.length c.init) ccap]) 8 (fun _ => kf) (holds_own (.there (.there (.there (.there (.there (.there .here))))))) rfl (by exact ⟨rfl, rfl, rfl, rfl, rfl, rfl, rfl, rfl, trivial⟩)) ?_
  refine dp 6 23 (iv v0_6) ?_
  obtain ⟨y5_7, hy5_7, H⟩ := bindE H
  refine d_call 7 24 [5, 6] [3, 2, 1, 0] [4] 33 #[.agg #[iv c.nodes, iv c.lines, iv c.words, iv c.sets, iv c.ways, iv c.out, iv c.inn, .slice ca (List.length c.init) ccap], iv v0_6] kf kf kf (fun _ => kf) (RWordsF_tr ca ccap c v0_6 (ImmR.reads (k := 1) (.there (.there (.there (.there (.there .here)))))) y5_7 hy5_7) ?_
  rintro _ _ ⟨a5_7_00, c5_7_00, rfl, rfl⟩
  refine ⟨(stable_cons 4 21 (.slice x5_4_b1_3.a9 (List.length v0_b1_3.r) x5_4_b1_3.c9) kf kf kf (load1 (off := 9) (fun _ => kf) (holds_own (.there .here)) kf) stable_nil), ?_⟩
  refine dp 8 25 (.agg #[iv (0), iv (-1), .slice a5_7_00 (List.length y5_7) c5_7_00]) ?_
  refine d_step 9 26 [8, 7, 5, 6] [3, 2, 1, 0] [4] kf kf kf (st_new (T := 82) (cells := #[iv (0), iv (-1), .slice a5_7_00 (List.length y5_7) c5_7_00]) (fun a => .slice (some a) 1 1) (fun _ => kf)) ?_
  rintro _ _ ⟨b5_9, rfl, rfl⟩
  refine ⟨(stable_cons 4 21 (.slice x5_4_b1_3.a9 (List.length v0_b1_3.r) x5_4_b1_3.c9) kf kf kf (load1 (off := 9) (fun _ => kf) (holds_own (.there (.there .here))) kf) stable_nil), ?_⟩
  refine Draw.convS (Γ' := (ImmI a5_7_00 y5_7) :: (Asn.own b5_9 (.cells #[iv (0), iv (-1), .slice a5_7_00 (List.length y5_7) c5_7_00] 82 (0, 0))) :: (Asn.own b1_3 (.cells #[iv v0_b1_3.c.nodes, iv v0_b1_3.c.lines, iv v0_b1_3.c.words, iv v0_b1_3.c.sets, iv v0_b1_3.c.ways, iv v0_b1_3.c.out, iv v0_b1_3.c.inn, .slice x5_4_b1_3.a7 (List.length v0_b1_3.c.init) x5_4_b1_3.c7, iv v0_b1_3.node, .slice x5_4_b1_3.a9 (List.length v0_b1_3.r) x5_4_b1_3.c9, .slice x5_4_b1_3.a10 (List.length v0_b1_3.owner) x5_4_b1_3.c10, .slice x5_4_b1_3.a11 (List.length v0_b1_3.wait) x5_4_b1_3.c11] x5_4_b1_3.T (0, 0))) :: (ImmI x5_4_b1_3.a7 v0_b1_3.c.init) :: (RecsX (α := RowS) x5_4_b1_3.r9 x5_4_b1_3.a9 x5_4_b1_3.c9 v0_b1_3.r) :: (RowsN 2 x5_4_b1_3.a10 x5_4_b1_3.c10 v0_b1_3.owner) :: (RowsN 3 x5_4_b1_3.a11 x5_4_b1_3.c11 v0_b1_3.wait) :: (ImmI ca c.init) :: (Asn.own b0_0 (.cells #[iv c.nodes, iv c.lines, iv c.words, iv c.sets, iv c.ways, iv c.out, iv c.inn, .slice ca (List.length c.init) ccap] 26 (0, 0))) :: Γ) (fun w hw => RowsA.freeze (hw.pull (.there .here))) (stable_cons 4 21 (.slice x5_4_b1_3.a9 (List.length v0_b1_3.r) x5_4_b1_3.c9) kf kf kf (load1 (off := 9) (fun _ => kf) (holds_own (.there (.there .here))) kf) stable_nil) ?_
  obtain ⟨hc5_10_0, H⟩ := chkE H
  obtain ⟨l5_10, hl5_10, H⟩ := letE H
  refine d_step 10 27 [4, 9, 7, 3, 8, 5, 6, 2, 1] [0] [] kf kf kf (st_append_recs (α := RowS) (m1 := (List.length v0_b1_3.r)) (m2 := 1) (cap2 := 1) (xs := v0_b1_3.r) (ys := [(⟨0, (-1), y5_7⟩ : RowS)]) (zs := l5_10) (info := tinfo 82) 40 (.agg #[iv (0), iv (0), .slice none 0 0]) (m := List.length l5_10) 54 54 82 (fun _ => kf) kf kf kf kf kf kf kf kf (.there (.there (.there (.there .here)))) (RecRd.own1 (α := RowS) (x := (⟨0, (-1), y5_7⟩ : RowS)) (c2 := c5_7_00) (T := 82) (.there .here) .here) (by first | rfl | simp) (by first | rfl | simp) rfl hl5_10 (by rw [← hl5_10]; exact hc5_10_0)) ?_
  rintro _ _ ⟨a5_10, c5_10, rw5_10, rfl, rfl⟩
  refine ⟨stable_nil, ?_⟩
  refine dp 11 28 (.pointer (some ⟨b1_3, 0, none⟩)) ?_
  refine dp 12 29 (.pointer (some ⟨b1_3, 9, none⟩)) ?_
  refine d_do 13 [12, 10, 0, 1, 2, 3, 4, 5, 6, 7, 8, 9, 11] [] [] kf kf kf (st_store (off := 9) (vs := [.slice a5_10 (List.length l5_10) c5_10]) (c' := #[iv v0_b1_3.c.nodes, iv v0_b1_3.c.lines, iv v0_b1_3.c.words, iv v0_b1_3.c.sets, iv v0_b1_3.c.ways, iv v0_b1_3.c.out, iv v0_b1_3.c.inn, .slice x5_4_b1_3.a7 (List.length v0_b1_3.c.init) x5_4_b1_3.c7, iv v0_b1_3.node, .slice a5_10 (List.length l5_10) c5_10, .slice x5_4_b1_3.a10 (List.length v0_b1_3.owner) x5_4_b1_3.c10, .slice x5_4_b1_3.a11 (List.length v0_b1_3.wait) x5_4_b1_3.c11]) (fun _ => kf) (.there (.there (.there .here))) kf kf kf) ?_
  rintro _ _ ⟨rfl, rfl⟩
  refine ⟨stable_nil, ?_⟩
  refine draw_end kf ?_
  refine ae [(2, .pointer (some ⟨b0_0, 0, none⟩)), (5, .pointer (some ⟨b1_3, 0, none⟩)), (6, iv v0_6)] ?_
  refine at_in_normal ?_
  refine at_then_normal ?_
  refine ar (id := 4) 3 ?_
  refine sp 15 (iv v0_6) ?_
  obtain ⟨hc4_1_0, H⟩ := chkE H
  refine sr 16 (iv (v0_6 + (1 : Int))) (run_eq (v := iv (IntKind.i64.wrap (v0_6 + (1 : Int)))) (fun _ => kf) (by rw [inR.wrap hc4_1_0])) ?_
  refine sp 6 (iv (v0_6 + (1 : Int))) ?_
  refine ops_end ?_
  refine ae [(2, .pointer (some ⟨b0_0, 0, none⟩)), (5, .pointer (some ⟨b1_3, 0, none⟩)), (6, iv (v0_6 + (1 : Int)))] ?_
  refine at_round_normal ?_
  refine At.conv (Γ' := (HomesXA b1_3 (⟨x5_4_b1_3.a7, x5_4_b1_3.c7, a5_10, c5_10, rw5_10, x5_4_b1_3.a10, x5_4_b1_3.c10, x5_4_b1_3.a11, x5_4_b1_3.c11, x5_4_b1_3.T⟩ : HomesXP) ({ c := v0_b1_3.c, node := v0_b1_3.node, r := l5_10, owner := v0_b1_3.owner, wait := v0_b1_3.wait } : HomesS)) :: (ImmI x5_4_b1_3.a7 v0_b1_3.c.init) :: (ImmI a5_7_00 y5_7) :: (Asn.own b5_9 (.cells #[iv (0), iv (-1), .slice a5_7_00 (List.length y5_7) c5_7_00] 82 (0, 0))) :: (ImmI ca c.init) :: (Asn.own b0_0 (.cells #[iv c.nodes, iv c.lines, iv c.words, iv c.sets, iv c.ways, iv c.out, iv c.inn, .slice ca (List.length c.init) ccap] 26 (0, 0))) :: Γ) (fun w hw => HomesXA.close (x := (⟨x5_4_b1_3.a7, x5_4_b1_3.c7, a5_10, c5_10, rw5_10, x5_4_b1_3.a10, x5_4_b1_3.c10, x5_4_b1_3.a11, x5_4_b1_3.c11, x5_4_b1_3.T⟩ : HomesXP)) (t := ({ c := v0_b1_3.c, node := v0_b1_3.node, r := l5_10, owner := v0_b1_3.owner, wait := v0_b1_3.wait } : HomesS)) (Sat.less (.take (.there (.there .here)) (.take .here (.take (.there .here) (.take (.there (.there (.there .here))) (.take (.there (.there (.there .here))) (.take .here (.take .here (.take .here (.take .here (.take .here .refl)))))))))) (ImmR.dup (Sat.less (.take (.there (.there (.there (.there .here)))) (.take .here (.take .here (.take .here (.take .here (.take .here (.take .here (.take .here (.take .here .refl))))))))) hw)))) ?_
  refine At.conv (Γ' := (HomesA b1_3 ({ c := v0_b1_3.c, node := v0_b1_3.node, r := l5_10, owner := v0_b1_3.owner, wait := v0_b1_3.wait } : HomesS)) :: (ImmI x5_4_b1_3.a7 v0_b1_3.c.init) :: (ImmI a5_7_00 y5_7) :: (Asn.own b5_9 (.cells #[iv (0), iv (-1), .slice a5_7_00 (List.length y5_7) c5_7_00] 82 (0, 0))) :: (ImmI ca c.init) :: (Asn.own b0_0 (.cells #[iv c.nodes, iv c.lines, iv c.words, iv c.sets, iv c.ways, iv c.out, iv c.inn, .slice ca (List.length c.init) ccap] 26 (0, 0))) :: Γ) (fun w hw => HomesXA.shut (hw.pull .here)) ?_
  exact at_roundR fuel1 [(2, .pointer (some ⟨b0_0, 0, none⟩)), (5, .pointer (some ⟨b1_3, 0, none⟩)), (6, iv (v0_6 + (1 : Int)))] ((HomesA b1_3 ({ c := v0_b1_3.c, node := v0_b1_3.node, r := l5_10, owner := v0_b1_3.owner, wait := v0_b1_3.wait } : HomesS)) :: (ImmI ca c.init) :: (Asn.own b0_0 (.cells #[iv c.nodes, iv c.lines, iv c.words, iv c.sets, iv c.ways, iv c.out, iv c.inn, .slice ca (List.length c.init) ccap] 26 (0, 0))) :: Γ) (Nat.lt_succ_self _) ⟨kf, kf, kf, trivial⟩ (fun w hw => (Sat.less (.take .here (.take (.there (.there (.there .here))) (.take (.there (.there (.there .here))) (.drop .here (.drop .here (.drop .here .refl)))))) hw)) ⟨fuel1, v0_6 + (1 : Int), ({ c := v0_b1_3.c, node := v0_b1_3.node, r := l5_10, owner := v0_b1_3.owner, wait := v0_b1_3.wait } : HomesS), H, rfl, rfl, rfl⟩
 ·replace H := bifF H h1
  refine at_false (t := decide (v0_6 < c.lines)) (x := C15 [1,1,0,1,0,0,0,1,0]) (y := C15 [1,1,0,1,0,0,0,1,1]) (o := .tmp 14) kf kf kf h1 ?_
  refine at_exit (i := 0) kf ?_
  refine at_then_exit ?_
  refine at_then_exit ?_
  rw [snewS_k0] at H
  refine ae [(2, .pointer (some ⟨b0_0, 0, none⟩)), (5, .pointer (some ⟨b1_3, 0, none⟩)), (6, iv v0_6)] ?_
  refine At.conv (Γ' := (HomesA b1_3 v0_b1_3) :: (ImmI ca c.init) :: (Asn.own b0_0 (.cells #[iv c.nodes, iv c.lines, iv c.words, iv c.sets, iv c.ways, iv c.out, iv c.inn, .slice ca (List.length c.init) ccap] 26 (0, 0))) :: Γ) (fun w hw => (Sat.less (.take .here (.take .here (.take .here .refl))) hw)) ?_
  refine at_in_here ?_
  refine at_then_normal ?_
  refine aq (x := C15 [1,1,1,0]) (y := C15 [1,1,1,1]) ?_
  refine ar (id := 6) 2 ?_
  refine sp 30 (.pointer (some ⟨b1_3, 0, none⟩)) ?_
  refine sp 4 (.pointer (some ⟨b1_3, 0, none⟩)) ?_
  refine ops_end ?_
  refine ae [(4, .pointer (some ⟨b1_3, 0, none⟩))] ?_
  refine at_then_normal ?_
  refine at_ret kf ?_
  obtain rfl := someE H
  refine at_backR [.pointer (some ⟨b1_3, 0, none⟩)] ((HomesA b1_3 v0_b1_3) :: Γ) (rs := [.tmp 4]) kf (.cons (.tmp kf) .nil) (fun w hw => (Sat.less (.take .here (.drop .here (.drop .here .refl))) hw)) ?_
  exact ⟨b1_3, rfl, rfl⟩
def shereS (hc : HomesS) (line : Int) : Option (Bool) :=
 (bif decide ((0 : Int) ≤ line) then (bif decide (line < hc.c.lines) then chk (1 ≤ hc.c.nodes) (some (decide ((line.tmod hc.c.nodes) = hc.node))) else some false) else some false)
noncomputable def C40 (p : List Nat) : Code := codeAt (bodyOf Try.f40) p
set_option maxRecDepth 100000 in
set_option maxHeartbeats 8000000 in
theorem SHereF_tr {W0 : World} {Γ : List Asn} (h : Nat) (hx : HomesXP) (hc : HomesS) (line : Int)  (y : Bool) (H : shereS hc line = some y) : Tr Try.prog 40 #[.pointer (some ⟨h, 0, none⟩), iv line] W0 ((HomesXA h hx hc) :: Γ) (fun r Δ => r = .bool y ∧ Δ = (HomesXA h hx hc) :: Γ) := by
 unfold shereS at H
 refine Tr.enter (fn := Try.f40) (c := C40 []) (args := [.pointer (some ⟨h, 0, none⟩), iv line]) 30 Try.func40 kf kf ?_
 refine ae [(0, .pointer (some ⟨h, 0, none⟩)), (1, iv line)] ?_
 refine aq (x := C40 [0]) (y := C40 [1]) ?_
 refine ar (id := 0) 1 ?_
 refine sp 4 (.bool false) ?_
 refine ops_end ?_
 refine ae [(0, .pointer (some ⟨h, 0, none⟩)), (1, iv line)] ?_
 refine at_then_normal ?_
 refine aq (x := C40 [1,0]) (y := C40 [1,1]) ?_
 refine at_region_draw (id := 1) kf kf ?_
 refine dp 0 5 (iv line) ?_
 refine dp 1 6 (.bool (decide ((0 : Int) ≤ line))) ?_
 rcases Bool.eq_false_or_eq_true (decide ((0 : Int) ≤ line)) with h1 | h1
 ·replace H := bifT H h1
  refine d_pure 2 7 (.bool true) kf kf kf (run_eq (v := .bool (decide ((0 : Int) ≤ line))) (fun _ => kf) (congrArg Value.bool h1)) ?_
  refine dp 3 8 (iv line) ?_
  refine dp 4 9 (.pointer (some ⟨h, 0, none⟩)) ?_
  refine dp 5 10 (.pointer (some ⟨h, 0, none⟩)) ?_
  refine dp 6 11 (.pointer (some ⟨h, 0, none⟩)) ?_
  refine dp 7 12 (.pointer (some ⟨h, 1, none⟩)) ?_
  refine HomesXA.open_draw .here ?_
  refine dl 8 13 (iv hc.c.lines) (load1 (off := 1) (fun _ => kf) (holds_own .here) kf) ?_
  refine dp 9 14 (.bool (decide (line < hc.c.lines))) ?_
  refine dp 10 15 (.bool (decide (line < hc.c.lines))) ?_
  rcases Bool.eq_false_or_eq_true (decide (line < hc.c.lines)) with h2 | h2
  ·replace H := bifT H h2
   refine d_pure 11 16 (.bool true) kf kf kf (run_eq (v := .bool (decide (line < hc.c.lines))) (fun _ => kf) (congrArg Value.bool h2)) ?_
   refine dp 12 17 (iv line) ?_
   refine dp 13 18 (.pointer (some ⟨h, 0, none⟩)) ?_
   refine dp 14 19 (.pointer (some ⟨h, 0, none⟩)) ?_
   refine dp 15 20 (.pointer (some ⟨h, 0, none⟩)) ?_
   refine dp 16 21 (.pointer (some ⟨h, 0, none⟩)) ?_
   refine dl 17 22 (iv hc.c.nodes) (load1 (off := 0) (fun _ => kf) (holds_own .here) kf) ?_
   obtain ⟨hc1_18_0, H⟩ := chkE H
   refine d_pure 18 23 (iv (line.tmod hc.c.nodes)) kf kf kf (run_remP (a := line) (b := hc.c.nodes) (fun _ => kf) hc1_18_0) ?_
   refine dp 19 24 (.pointer (some ⟨h, 0, none⟩)) ?_
   refine dp 20 25 (.pointer (some ⟨h, 0, none⟩)) ?_
   refine dp 21 26 (.pointer (some ⟨h, 8, none⟩)) ?_
   refine dl 22 27 (iv hc.node) (load1 (off := 8) (fun _ => kf) (holds_own .here) kf) ?_
   refine dp 23 28 (.bool (decide ((line.tmod hc.c.nodes) = hc.node))) ?_
   refine dp 24 29 (.bool (decide ((line.tmod hc.c.nodes) = hc.node))) ?_
   refine dp 25 4 (.bool (decide ((line.tmod hc.c.nodes) = hc.node))) ?_
   refine draw_end kf ?_
   refine ae [(4, .bool (decide ((line.tmod hc.c.nodes) = hc.node)))] ?_
   refine at_then_normal ?_
   refine at_ret kf ?_
   refine At.conv (Γ' := (HomesXA h hx hc) :: (ImmI hx.a7 hc.c.init) :: Γ) (fun w hw => HomesXA.close (x := hx) (t := hc) (Sat.less (.take (.there (.there .here)) (.take .here (.take (.there .here) (.take (.there .here) (.take (.there .here) (.take .here .refl)))))) (ImmR.dup (Sat.less (.take (.there .here) (.take .here (.take .here (.take .here (.take .here .refl))))) hw)))) ?_
   obtain rfl := someE H
   refine at_backR [.bool (decide ((line.tmod hc.c.nodes) = hc.node))] ((HomesXA h hx hc) :: Γ) (rs := [.tmp 4]) kf (.cons (.tmp kf) .nil) (fun w hw => (Sat.less (.take .here (.drop .here .refl)) hw)) ?_
   exact ⟨rfl, rfl⟩
  ·replace H := bifF H h2
   refine d_pure 11 16 (.bool false) kf kf kf (run_eq (v := .bool (decide (line < hc.c.lines))) (fun _ => kf) (congrArg Value.bool h2)) ?_
   refine d_off 12 17 kf kf kf ?_
   refine d_off 13 18 kf kf kf ?_
   refine d_off 14 19 kf kf kf ?_
   refine d_off 15 20 kf kf kf ?_
   refine d_off 16 21 kf kf kf ?_
   refine d_off 17 22 kf kf kf ?_
   refine d_off 18 23 kf kf kf ?_
   refine d_off 19 24 kf kf kf ?_
   refine d_off 20 25 kf kf kf ?_
   refine d_off 21 26 kf kf kf ?_
   refine d_off 22 27 kf kf kf ?_
   refine d_off 23 28 kf kf kf ?_
   refine dp 24 29 (.bool false) ?_
   refine dp 25 4 (.bool false) ?_
   refine draw_end kf ?_
   refine ae [(4, .bool false)] ?_
   refine at_then_normal ?_
   refine at_ret kf ?_
   refine At.conv (Γ' := (HomesXA h hx hc) :: (ImmI hx.a7 hc.c.init) :: Γ) (fun w hw => HomesXA.close (x := hx) (t := hc) (Sat.less (.take (.there (.there .here)) (.take .here (.take (.there .here) (.take (.there .here) (.take (.there .here) (.take .here .refl)))))) (ImmR.dup (Sat.less (.take (.there .here) (.take .here (.take .here (.take .here (.take .here .refl))))) hw)))) ?_
   obtain rfl := someE H
   refine at_backR [.bool false] ((HomesXA h hx hc) :: Γ) (rs := [.tmp 4]) kf (.cons (.tmp kf) .nil) (fun w hw => (Sat.less (.take .here (.drop .here .refl)) hw)) ?_
   exact ⟨rfl, rfl⟩
 ·replace H := bifF H h1
  refine d_pure 2 7 (.bool false) kf kf kf (run_eq (v := .bool (decide ((0 : Int) ≤ line))) (fun _ => kf) (congrArg Value.bool h1)) ?_
  refine d_off 3 8 kf kf kf ?_
  refine d_off 4 9 kf kf kf ?_
  refine d_off 5 10 kf kf kf ?_
  refine d_off 6 11 kf kf kf ?_
  refine d_off 7 12 kf kf kf ?_
  refine d_off 8 13 kf kf kf ?_
  refine d_off 9 14 kf kf kf ?_
  refine dp 10 15 (.bool false) ?_
  refine dp 11 16 (.bool false) ?_
  refine d_off 12 17 kf kf kf ?_
  refine d_off 13 18 kf kf kf ?_
  refine d_off 14 19 kf kf kf ?_
  refine d_off 15 20 kf kf kf ?_
  refine d_off 16 21 kf kf kf ?_
  refine d_off 17 22 kf kf kf ?_
  refine d_off 18 23 kf kf kf ?_
  refine d_off 19 24 kf kf kf ?_
  refine d_off 20 25 kf kf kf ?_
  refine d_off 21 26 kf kf kf ?_
  refine d_off 22 27 kf kf kf ?_
  refine d_off 23 28 kf kf kf ?_
  refine dp 24 29 (.bool false) ?_
  refine dp 25 4 (.bool false) ?_
  refine draw_end kf ?_
  refine ae [(4, .bool false)] ?_
  refine at_then_normal ?_
  refine at_ret kf ?_
  obtain rfl := someE H
  refine at_backR [.bool false] ((HomesXA h hx hc) :: Γ) (rs := [.tmp 4]) kf (.cons (.tmp kf) .nil) (fun w hw => (Sat.less (.take .here .refl) hw)) ?_
  exact ⟨rfl, rfl⟩
def ssetS (hc : HomesS) (line : Int) (state : Int) (head : Int) (data : List Int) : Option (Int × HomesS) :=
 (shereS hc line).bind fun y1_2 => (bif !y1_2 then some ((3 : Int), hc) else (bif decide (state < (0 : Int)) then some ((1 : Int), hc) else (bif decide ((2 : Int) < state) then some ((1 : Int), hc) else (bif decide (head < ((-1) : Int)) then some ((1 : Int), hc) else (bif decide (hc.c.nodes ≤ head) then some ((1 : Int), hc) else (bif !((decide (state = (0 : Int))) == (decide (head = ((-1) : Int)))) then some ((1 : Int), hc) else (bif decide ((0 : Int) < (((List.length data) : Nat) : Int)) then (bif !(decide ((((List.length data) : Nat) : Int) = hc.c.words)) then some ((1 : Int), hc) else chk (0 ≤ line ∧ line < ((List.length hc.r : Nat) : Int)) (letP (nthT hc.r line) fun x5_9 => (bif decide ((0 : Int) < (((List.length data) : Nat) : Int)) then chk ((data).length ≤ 1099511627776) (letP (data) fun l7_1 => chk (0 ≤ line ∧ line < ((List.length hc.r : Nat) : Int)) (letP (List.set hc.r (line).toNat (⟨state, head, l7_1⟩ : RowS)) fun l8_7 => some ((0 : Int), ({ c := hc.c, node := hc.node, r := l8_7, owner := hc.owner, wait := hc.wait } : HomesS)))) else chk (0 ≤ line ∧ line < ((List.length hc.r : Nat) : Int)) (letP (List.set hc.r (line).toNat (⟨state, head, x5_9.data⟩ : RowS)) fun l8_7 => some ((0 : Int), ({ c := hc.c, node := hc.node, r := l8_7, owner := hc.owner, wait := hc.wait } : HomesS)))))) else chk (0 ≤ line ∧ line < ((List.length hc.r : Nat) : Int)) (letP (nthT hc.r line) fun x5_9 => (bif decide ((0 : Int) < (((List.length data) : Nat) : Int)) then chk ((data).length ≤ 1099511627776) (letP (data) fun l7_1 => chk (0 ≤ line ∧ line < ((List.length hc.r : Nat) : Int)) (letP (List.set hc.r (line).toNat (⟨state, head, l7_1⟩ : RowS)) fun l8_7 => some ((0 : Int), ({ c := hc.c, node := hc.node, r := l8_7, owner := hc.owner, wait := hc.wait } : HomesS)))) else chk (0 ≤ line ∧ line < ((List.length hc.r : Nat) : Int)) (letP (List.set hc.r (line).toNat (⟨state, head, x5_9.data⟩ : RowS)) fun l8_7 => some ((0 : Int), ({ c := hc.c, node := hc.node, r := l8_7, owner := hc.owner, wait := hc.wait } : HomesS))))))))))))
noncomputable def C42 (p : List Nat) : Code := codeAt (bodyOf Try.f42) p
set_option maxRecDepth 100000 in
set_option maxHeartbeats 8000000 in
theorem SSetF_tr {W0 : World} {Γ : List Asn} (h : Nat) (hc : HomesS) (line : Int) (state : Int) (head : Int) (dataa : Option Addr) (datacap : Nat) (data : List Int) (hrdataa : Reads W0 Γ dataa (ints data)) (y : Int × HomesS) (H : ssetS hc line state head data = some y) : Tr Try.prog 42 #[.pointer (some ⟨h, 0, none⟩), iv line, iv state, iv head, .slice dataa (List.length data) datacap] W0 ((HomesA h hc) :: Γ) (fun r Δ => r = iv y.1 ∧ Δ = (HomesA h y.2) :: Γ) := by
 unfold ssetS at H
 refine Tr.enter (fn := Try.f42) (c := C42 []) (args := [.pointer (some ⟨h, 0, none⟩), iv line, iv state, iv head, .slice dataa (List.length data) datacap]) 81 Try.func42 kf kf ?_
 refine ae [(0, .pointer (some ⟨h, 0, none⟩)), (1, iv line), (2, iv state), (3, iv head), (4, .slice dataa (List.length data) datacap)] ?_
 refine aq (x := C42 [0]) (y := C42 [1]) ?_
 refine ar (id := 0) 1 ?_
 refine sp 10 (iv (0)) ?_
 refine ops_end ?_
 refine ae [(0, .pointer (some ⟨h, 0, none⟩)), (1, iv line), (2, iv state), (3, iv head), (4, .slice dataa (List.length data) datacap)] ?_
 refine at_then_normal ?_
 refine aq (x := C42 [1,0]) (y := C42 [1,1]) ?_
 refine aq (x := C42 [1,0,0]) (y := C42 [1,0,1]) ?_
 refine ar (id := 1) 4 ?_
 refine sp 12 (.pointer (some ⟨h, 0, none⟩)) ?_
 refine sp 13 (iv line) ?_
 refine HomesA.tox .here ?_
 intro x1_2_h
 obtain ⟨y1_2, hy1_2, H⟩ := bindE H
 refine s_call 14 40 #[.pointer (some ⟨h, 0, none⟩), iv line] kf kf (fun _ => kf) (SHereF_tr h x1_2_h hc line y1_2 hy1_2) ?_
 rintro _ _ ⟨rfl, rfl⟩
 refine sp 15 (.bool !y1_2) ?_
 refine ops_end ?_
 refine ae [(0, .pointer (some ⟨h, 0, none⟩)), (1, iv line), (2, iv state), (3, iv head), (4, .slice dataa (List.length data) datacap), (15, .bool !y1_2)] ?_
 refine at_then_normal ?_
 rcases Bool.eq_false_or_eq_true (!y1_2) with h1 | h1
 ·replace H := bifT H h1
  refine at_true (t := !y1_2) (x := C42 [1,0,1,0]) (y := C42 [1,0,1,1]) (o := .tmp 15) kf kf kf h1 ?_
  refine aq (x := C42 [1,0,1,0,0]) (y := C42 [1,0,1,0,1]) ?_
  refine ar (id := 2) 1 ?_
  refine sp 10 (iv (3)) ?_
  refine ops_end ?_
  refine ae [(10, iv (3))] ?_
  refine at_then_normal ?_
  refine at_ret kf ?_
  refine at_then_ret ?_
  refine At.conv (Γ' := (HomesA h hc) :: Γ) (fun w hw => HomesXA.shut (hw.pull .here)) ?_
  obtain rfl := someE H
  refine at_backR [iv (3)] ((HomesA h hc) :: Γ) (rs := [.tmp 10]) kf (.cons (.tmp kf) .nil) (fun w hw => (Sat.less (.take .here .refl) hw)) ?_
  exact ⟨rfl, rfl⟩
 ·replace H := bifF H h1
  refine at_false (t := !y1_2) (x := C42 [1,0,1,0]) (y := C42 [1,0,1,1]) (o := .tmp 15) kf kf kf h1 ?_
  refine at_skip kf ?_
  refine at_then_normal ?_
  refine aq (x := C42 [1,1,0]) (y := C42 [1,1,1]) ?_
  refine aq (x := C42 [1,1,0,0]) (y := C42 [1,1,0,1]) ?_
  refine ar (id := 3) 41 ?_
  refine sp 16 (iv state) ?_
  refine sp 17 (.bool (decide (state < (0 : Int)))) ?_
  rcases Bool.eq_false_or_eq_true (decide (state < (0 : Int))) with h2 | h2
  ·replace H := bifT H h2
   refine sr 18 (.bool true) (run_eq (v := .bool (decide (state < (0 : Int)))) (fun _ => kf) (congrArg Value.bool h2)) ?_
   refine sa 19 ?_
   refine sa 20 ?_
   refine sp 21 (.bool true) ?_
   refine sp 22 (.bool true) ?_
   refine sa 23 ?_
   refine sa 24 ?_
   refine sp 25 (.bool true) ?_
   refine sp 26 (.bool true) ?_
   refine sa 27 ?_
   refine sa 28 ?_
   refine sa 29 ?_
   refine sa 30 ?_
   refine sa 31 ?_
   refine sa 32 ?_
   refine sa 33 ?_
   refine sp 34 (.bool true) ?_
   refine sp 35 (.bool true) ?_
   refine sa 36 ?_
   refine sa 37 ?_
   refine sa 38 ?_
   refine sa 39 ?_
   refine sa 40 ?_
   refine sp 41 (.bool true) ?_
   refine sp 42 (.bool true) ?_
   refine sa 43 ?_
   refine sa 44 ?_
   refine sa 45 ?_
   refine sa 46 ?_
   refine sa 47 ?_
   refine sa 48 ?_
   refine sa 49 ?_
   refine sa 50 ?_
   refine sa 51 ?_
   refine sa 52 ?_
   refine sa 53 ?_
   refine sa 54 ?_
   refine sa 55 ?_
   refine sp 56 (.bool true) ?_
   refine ops_end ?_
   refine ae [(0, .pointer (some ⟨h, 0, none⟩)), (1, iv line), (2, iv state), (3, iv head), (4, .slice dataa (List.length data) datacap), (56, .bool true)] ?_
   refine at_then_normal ?_
   refine at_true (t := true) (x := C42 [1,1,0,1,0]) (y := C42 [1,1,0,1,1]) (o := .tmp 56) kf kf kf rfl ?_
   refine aq (x := C42 [1,1,0,1,0,0]) (y := C42 [1,1,0,1,0,1]) ?_
   refine ar (id := 4) 1 ?_
   refine sp 10 (iv (1)) ?_
   refine ops_end ?_
   refine ae [(10, iv (1))] ?_
   refine at_then_normal ?_
   refine at_ret kf ?_
   refine at_then_ret ?_
   refine At.conv (Γ' := (HomesA h hc) :: Γ) (fun w hw => HomesXA.shut (hw.pull .here)) ?_
   obtain rfl := someE H
   refine at_backR [iv (1)] ((HomesA h hc) :: Γ) (rs := [.tmp 10]) kf (.cons (.tmp kf) .nil) (fun w hw => (Sat.less (.take .here .refl) hw)) ?_
   exact ⟨rfl, rfl⟩
  ·replace H := bifF H h2
   refine sr 18 (.bool false) (run_eq (v := .bool (decide (state < (0 : Int)))) (fun _ => kf) (congrArg Value.bool h2)) ?_
   refine sp 19 (iv state) ?_
   refine sp 20 (.bool (decide ((2 : Int) < state))) ?_
   refine sp 21 (.bool (decide ((2 : Int) < state))) ?_
   rcases Bool.eq_false_or_eq_true (decide ((2 : Int) < state)) with h3 | h3
   ·replace H := bifT H h3
    refine sr 22 (.bool true) (run_eq (v := .bool (decide ((2 : Int) < state))) (fun _ => kf) (congrArg Value.bool h3)) ?_
    refine sa 23 ?_
    refine sa 24 ?_
    refine sp 25 (.bool true) ?_
    refine sp 26 (.bool true) ?_
    refine sa 27 ?_
    refine sa 28 ?_
    refine sa 29 ?_
    refine sa 30 ?_
    refine sa 31 ?_
    refine sa 32 ?_
    refine sa 33 ?_
    refine sp 34 (.bool true) ?_
    refine sp 35 (.bool true) ?_
    refine sa 36 ?_
    refine sa 37 ?_
    refine sa 38 ?_
    refine sa 39 ?_
    refine sa 40 ?_
    refine sp 41 (.bool true) ?_
    refine sp 42 (.bool true) ?_
    refine sa 43 ?_
    refine sa 44 ?_
    refine sa 45 ?_
    refine sa 46 ?_
    refine sa 47 ?_
    refine sa 48 ?_
    refine sa 49 ?_
    refine sa 50 ?_
    refine sa 51 ?_
    refine sa 52 ?_
    refine sa 53 ?_
    refine sa 54 ?_
    refine sa 55 ?_
    refine sp 56 (.bool true) ?_
    refine ops_end ?_
    refine ae [(0, .pointer (some ⟨h, 0, none⟩)), (1, iv line), (2, iv state), (3, iv head), (4, .slice dataa (List.length data) datacap), (56, .bool true)] ?_
    refine at_then_normal ?_
    refine at_true (t := true) (x := C42 [1,1,0,1,0]) (y := C42 [1,1,0,1,1]) (o := .tmp 56) kf kf kf rfl ?_
    refine aq (x := C42 [1,1,0,1,0,0]) (y := C42 [1,1,0,1,0,1]) ?_
    refine ar (id := 4) 1 ?_
    refine sp 10 (iv (1)) ?_
    refine ops_end ?_
    refine ae [(10, iv (1))] ?_
    refine at_then_normal ?_
    refine at_ret kf ?_
    refine at_then_ret ?_
    refine At.conv (Γ' := (HomesA h hc) :: Γ) (fun w hw => HomesXA.shut (hw.pull .here)) ?_
    obtain rfl := someE H
    refine at_backR [iv (1)] ((HomesA h hc) :: Γ) (rs := [.tmp 10]) kf (.cons (.tmp kf) .nil) (fun w hw => (Sat.less (.take .here .refl) hw)) ?_
    exact ⟨rfl, rfl⟩
   ·replace H := bifF H h3
    refine sr 22 (.bool false) (run_eq (v := .bool (decide ((2 : Int) < state))) (fun _ => kf) (congrArg Value.bool h3)) ?_
    refine sp 23 (iv head) ?_
    refine sp 24 (.bool (decide (head < ((-1) : Int)))) ?_
    refine sp 25 (.bool (decide (head < ((-1) : Int)))) ?_
    rcases Bool.eq_false_or_eq_true (decide (head < ((-1) : Int))) with h4 | h4
    ·replace H := bifT H h4
     refine sr 26 (.bool true) (run_eq (v := .bool (decide (head < ((-1) : Int)))) (fun _ => kf) (congrArg Value.bool h4)) ?_
     refine sa 27 ?_
     refine sa 28 ?_
     refine sa 29 ?_
     refine sa 30 ?_
     refine sa 31 ?_
     refine sa 32 ?_
     refine sa 33 ?_
     refine sp 34 (.bool true) ?_
     refine sp 35 (.bool true) ?_
     refine sa 36 ?_
     refine sa 37 ?_
     refine sa 38 ?_
     refine sa 39 ?_
     refine sa 40 ?_
     refine sp 41 (.bool true) ?_
     refine sp 42 (.bool true) ?_
     refine sa 43 ?_
     refine sa 44 ?_
     refine sa 45 ?_
     refine sa 46 ?_
     refine sa 47 ?_
     refine sa 48 ?_
     refine sa 49 ?_
     refine sa 50 ?_
     refine sa 51 ?_
     refine sa 52 ?_
     refine sa 53 ?_
     refine sa 54 ?_
     refine sa 55 ?_
     refine sp 56 (.bool true) ?_
     refine ops_end ?_
     refine ae [(0, .pointer (some ⟨h, 0, none⟩)), (1, iv line), (2, iv state), (3, iv head), (4, .slice dataa (List.length data) datacap), (56, .bool true)] ?_
     refine at_then_normal ?_
     refine at_true (t := true) (x := C42 [1,1,0,1,0]) (y := C42 [1,1,0,1,1]) (o := .tmp 56) kf kf kf rfl ?_
     refine aq (x := C42 [1,1,0,1,0,0]) (y := C42 [1,1,0,1,0,1]) ?_
     refine ar (id := 4) 1 ?_
     refine sp 10 (iv (1)) ?_
     refine ops_end ?_
     refine ae [(10, iv (1))] ?_
     refine at_then_normal ?_
     refine at_ret kf ?_
     refine at_then_ret ?_
     refine At.conv (Γ' := (HomesA h hc) :: Γ) (fun w hw => HomesXA.shut (hw.pull .here)) ?_
     obtain rfl := someE H
     refine at_backR [iv (1)] ((HomesA h hc) :: Γ) (rs := [.tmp 10]) kf (.cons (.tmp kf) .nil) (fun w hw => (Sat.less (.take .here .refl) hw)) ?_
     exact ⟨rfl, rfl⟩
    ·replace H := bifF H h4
     refine sr 26 (.bool false) (run_eq (v := .bool (decide (head < ((-1) : Int)))) (fun _ => kf) (congrArg Value.bool h4)) ?_
     refine sp 27 (iv head) ?_
     refine sp 28 (.pointer (some ⟨h, 0, none⟩)) ?_
     refine sp 29 (.pointer (some ⟨h, 0, none⟩)) ?_
     refine sp 30 (.pointer (some ⟨h, 0, none⟩)) ?_
     refine sp 31 (.pointer (some ⟨h, 0, none⟩)) ?_
     refine HomesXA.open .here ?_
     refine sl 32 (iv hc.c.nodes) (load1 (off := 0) (fun _ => kf) (holds_own .here) kf) ?_
     refine sp 33 (.bool (decide (hc.c.nodes ≤ head))) ?_
     refine sp 34 (.bool (decide (hc.c.nodes ≤ head))) ?_
     rcases Bool.eq_false_or_eq_true (decide (hc.c.nodes ≤ head)) with h5 | h5
     ·replace H := bifT H h5
      refine sr 35 (.bool true) (run_eq (v := .bool (decide (hc.c.nodes ≤ head))) (fun _ => kf) (congrArg Value.bool h5)) ?_
      refine sa 36 ?_
      refine sa 37 ?_
      refine sa 38 ?_
      refine sa 39 ?_
      refine sa 40 ?_
      refine sp 41 (.bool true) ?_
      refine sp 42 (.bool true) ?_
      refine sa 43 ?_
      refine sa 44 ?_
      refine sa 45 ?_
      refine sa 46 ?_
      refine sa 47 ?_
      refine sa 48 ?_
      refine sa 49 ?_
      refine sa 50 ?_
      refine sa 51 ?_
      refine sa 52 ?_
      refine sa 53 ?_
      refine sa 54 ?_
      refine sa 55 ?_
      refine sp 56 (.bool true) ?_
      refine ops_end ?_
      refine ae [(0, .pointer (some ⟨h, 0, none⟩)), (1, iv line), (2, iv state), (3, iv head), (4, .slice dataa (List.length data) datacap), (56, .bool true)] ?_
      refine at_then_normal ?_
      refine at_true (t := true) (x := C42 [1,1,0,1,0]) (y := C42 [1,1,0,1,1]) (o := .tmp 56) kf kf kf rfl ?_
      refine aq (x := C42 [1,1,0,1,0,0]) (y := C42 [1,1,0,1,0,1]) ?_
      refine ar (id := 4) 1 ?_
      refine sp 10 (iv (1)) ?_
      refine ops_end ?_
      refine ae [(10, iv (1))] ?_
      refine at_then_normal ?_
      refine at_ret kf ?_
      refine at_then_ret ?_
      refine At.conv (Γ' := (HomesXA h x1_2_h hc) :: (ImmI x1_2_h.a7 hc.c.init) :: Γ) (fun w hw => HomesXA.close (x := x1_2_h) (t := hc) (Sat.less (.take (.there (.there .here)) (.take .here (.take (.there .here) (.take (.there .here) (.take (.there .here) (.take .here .refl)))))) (ImmR.dup (Sat.less (.take (.there .here) (.take .here (.take .here (.take .here (.take .here .refl))))) hw)))) ?_
      refine At.conv (Γ' := (HomesA h hc) :: (ImmI x1_2_h.a7 hc.c.init) :: Γ) (fun w hw => HomesXA.shut (hw.pull .here)) ?_
      obtain rfl := someE H
      refine at_backR [iv (1)] ((HomesA h hc) :: Γ) (rs := [.tmp 10]) kf (.cons (.tmp kf) .nil) (fun w hw => (Sat.less (.take .here (.drop .here .refl)) hw)) ?_
      exact ⟨rfl, rfl⟩
     ·replace H := bifF H h5
      refine sr 35 (.bool false) (run_eq (v := .bool (decide (hc.c.nodes ≤ head))) (fun _ => kf) (congrArg Value.bool h5)) ?_
      refine sp 36 (iv state) ?_
      refine sp 37 (.bool (decide (state = (0 : Int)))) ?_
      refine sp 38 (iv head) ?_
      refine sp 39 (.bool (decide (head = ((-1) : Int)))) ?_
      refine sp 40 (.bool (!((decide (state = (0 : Int))) == (decide (head = ((-1) : Int)))))) ?_
      refine sp 41 (.bool (!((decide (state = (0 : Int))) == (decide (head = ((-1) : Int)))))) ?_
      rcases Bool.eq_false_or_eq_true (!((decide (state = (0 : Int))) == (decide (head = ((-1) : Int))))) with h6 | h6
      ·replace H := bifT H h6
       refine sr 42 (.bool true) (run_eq (v := .bool (!((decide (state = (0 : Int))) == (decide (head = ((-1) : Int)))))) (fun _ => kf) (congrArg Value.bool h6)) ?_
       refine sa 43 ?_
       refine sa 44 ?_
       refine sa 45 ?_
       refine sa 46 ?_
       refine sa 47 ?_
       refine sa 48 ?_
       refine sa 49 ?_
       refine sa 50 ?_
       refine sa 51 ?_
       refine sa 52 ?_
       refine sa 53 ?_
       refine sa 54 ?_
       refine sa 55 ?_
       refine sp 56 (.bool true) ?_
       refine ops_end ?_
       refine ae [(0, .pointer (some ⟨h, 0, none⟩)), (1, iv line), (2, iv state), (3, iv head), (4, .slice dataa (List.length data) datacap), (56, .bool true)] ?_
       refine at_then_normal ?_
       refine at_true (t := true) (x := C42 [1,1,0,1,0]) (y := C42 [1,1,0,1,1]) (o := .tmp 56) kf kf kf rfl ?_
       refine aq (x := C42 [1,1,0,1,0,0]) (y := C42 [1,1,0,1,0,1]) ?_
       refine ar (id := 4) 1 ?_
       refine sp 10 (iv (1)) ?_
       refine ops_end ?_
       refine ae [(10, iv (1))] ?_
       refine at_then_normal ?_
       refine at_ret kf ?_
       refine at_then_ret ?_
       refine At.conv (Γ' := (HomesXA h x1_2_h hc) :: (ImmI x1_2_h.a7 hc.c.init) :: Γ) (fun w hw => HomesXA.close (x := x1_2_h) (t := hc) (Sat.less (.take (.there (.there .here)) (.take .here (.take (.there .here) (.take (.there .here) (.take (.there .here) (.take .here .refl)))))) (ImmR.dup (Sat.less (.take (.there .here) (.take .here (.take .here (.take .here (.take .here .refl))))) hw)))) ?_
       refine At.conv (Γ' := (HomesA h hc) :: (ImmI x1_2_h.a7 hc.c.init) :: Γ) (fun w hw => HomesXA.shut (hw.pull .here)) ?_
       obtain rfl := someE H
       refine at_backR [iv (1)] ((HomesA h hc) :: Γ) (rs := [.tmp 10]) kf (.cons (.tmp kf) .nil) (fun w hw => (Sat.less (.take .here (.drop .here .refl)) hw)) ?_
       exact ⟨rfl, rfl⟩
      ·replace H := bifF H h6
       refine sr 42 (.bool false) (run_eq (v := .bool (!((decide (state = (0 : Int))) == (decide (head = ((-1) : Int)))))) (fun _ => kf) (congrArg Value.bool h6)) ?_
       refine sp 43 (.slice dataa (List.length data) datacap) ?_
       refine sp 44 (iv (((List.length data) : Nat) : Int)) ?_
       refine sp 45 (.bool (decide ((0 : Int) < (((List.length data) : Nat) : Int)))) ?_
       rcases Bool.eq_false_or_eq_true (decide ((0 : Int) < (((List.length data) : Nat) : Int))) with h7 | h7
       ·replace H := bifT H h7
        refine sr 46 (.bool true) (run_eq (v := .bool (decide ((0 : Int) < (((List.length data) : Nat) : Int)))) (fun _ => kf) (congrArg Value.bool h7)) ?_
        refine sp 47 (.slice dataa (List.length data) datacap) ?_
        refine sp 48 (iv (((List.length data) : Nat) : Int)) ?_
        refine sp 49 (.pointer (some ⟨h, 0, none⟩)) ?_
        refine sp 50 (.pointer (some ⟨h, 0, none⟩)) ?_
        refine sp 51 (.pointer (some ⟨h, 0, none⟩)) ?_
        refine sp 52 (.pointer (some ⟨h, 2, none⟩)) ?_
        refine sl 53 (iv hc.c.words) (load1 (off := 2) (fun _ => kf) (holds_own .here) kf) ?_
        refine sp 54 (.bool (!(decide ((((List.length data) : Nat) : Int) = hc.c.words)))) ?_
        refine sp 55 (.bool (!(decide ((((List.length data) : Nat) : Int) = hc.c.words)))) ?_
        refine sp 56 (.bool (!(decide ((((List.length data) : Nat) : Int) = hc.c.words)))) ?_
        refine ops_end ?_
        refine ae [(0, .pointer (some ⟨h, 0, none⟩)), (1, iv line), (2, iv state), (3, iv head), (4, .slice dataa (List.length data) datacap), (56, .bool (!(decide ((((List.length data) : Nat) : Int) = hc.c.words))))] ?_
        refine at_then_normal ?_
        rcases Bool.eq_false_or_eq_true (!(decide ((((List.length data) : Nat) : Int) = hc.c.words))) with h8 | h8
        ·replace H := bifT H h8
         refine at_true (t := !(decide ((((List.length data) : Nat) : Int) = hc.c.words))) (x := C42 [1,1,0,1,0]) (y := C42 [1,1,0,1,1]) (o := .tmp 56) kf kf kf h8 ?_
         refine aq (x := C42 [1,1,0,1,0,0]) (y := C42 [1,1,0,1,0,1]) ?_
         refine ar (id := 4) 1 ?_
         refine sp 10 (iv (1)) ?_
         refine ops_end ?_
         refine ae [(10, iv (1))] ?_
         refine at_then_normal ?_
         refine at_ret kf ?_
         refine at_then_ret ?_
         refine At.conv (Γ' := (HomesXA h x1_2_h hc) :: (ImmI x1_2_h.a7 hc.c.init) :: Γ) (fun w hw => HomesXA.close (x := x1_2_h) (t := hc) (Sat.less (.take (.there (.there .here)) (.take .here (.take (.there .here) (.take (.there .here) (.take (.there .here) (.take .here .refl)))))) (ImmR.dup (Sat.less (.take (.there .here) (.take .here (.take .here (.take .here (.take .here .refl))))) hw)))) ?_
         refine At.conv (Γ' := (HomesA h hc) :: (ImmI x1_2_h.a7 hc.c.init) :: Γ) (fun w hw => HomesXA.shut (hw.pull .here)) ?_
         obtain rfl := someE H
         refine at_backR [iv (1)] ((HomesA h hc) :: Γ) (rs := [.tmp 10]) kf (.cons (.tmp kf) .nil) (fun w hw => (Sat.less (.take .here (.drop .here .refl)) hw)) ?_
         exact ⟨rfl, rfl⟩
        ·replace H := bifF H h8
         refine at_false (t := !(decide ((((List.length data) : Nat) : Int) = hc.c.words))) (x := C42 [1,1,0,1,0]) (y := C42 [1,1,0,1,1]) (o := .tmp 56) kf kf kf h8 ?_
         refine at_skip kf ?_
         refine at_then_normal ?_
         refine aq (x := C42 [1,1,1,0]) (y := C42 [1,1,1,1]) ?_
         refine ar (id := 5) 13 ?_
         refine sp 57 (iv state) ?_
         refine sp 58 (iv head) ?_
         refine sp 59 (.pointer (some ⟨h, 0, none⟩)) ?_
         refine sp 60 (.pointer (some ⟨h, 0, none⟩)) ?_
         refine sp 61 (.pointer (some ⟨h, 9, none⟩)) ?_
         refine sl 62 (.slice x1_2_h.a9 (List.length hc.r) x1_2_h.c9) (load1 (off := 9) (fun _ => kf) (holds_own .here) kf) ?_
         refine sp 63 (iv line) ?_
         obtain ⟨hc5_7_0, H⟩ := chkE H
         refine rd_at (RecsX.rd (α := RowS) (.there (.there .here))) (by have := hc5_7_0; omega) ?_
         intro bb1 oo1 ha1
         refine sr 64 (.pointer (some ⟨bb1, oo1 + (((line).toNat) * 3 + 0), none⟩)) (index_at (t := 54) (sz := 3) (E := 82) (a := x1_2_h.a9) (m := (List.length hc.r)) (c := x1_2_h.c9) (b := bb1) (off := oo1) (i := (line).toNat) (tinfo 82) (fun _ => kf) kf kf kf ha1 (idx_cast hc5_7_0) (idx_nat hc5_7_0) rfl) ?_
         refine sr 65 (.pointer (some ⟨bb1, oo1 + (((line).toNat) * 3 + 2), none⟩)) (field_at (f := 2) (addr := ⟨bb1, oo1 + (((line).toNat) * 3 + 0), none⟩) (fun _ => kf) rfl rfl) ?_
         obtain ⟨x5_9, hx5_9, H⟩ := letE H
         refine rd_get (RecsX.rd (α := RowS) (.there (.there .here))) hc5_7_0 ?_
         intro a5_9 c5_9 hrx5_9
         rw [hx5_9] at hrx5_9 ⊢
         refine sl 66 (.slice a5_9 (List.length x5_9.data) c5_9) (load1_at (off := oo1 + ((line).toNat * 3 + 2)) (v := .slice a5_9 (List.length x5_9.data) c5_9) (fun _ => kf) rfl (rd_row (RecsX.rd (α := RowS) (.there (.there (.there .here)))) ha1 hrx5_9 rfl)) ?_
         refine sp 67 (.agg #[iv state, iv head, .slice a5_9 (List.length x5_9.data) c5_9]) ?_
         refine s_step 11 kf kf (st_new (T := 82) (cells := #[iv (0), iv (0), .slice none 0 0]) (fun a => .pointer (some a)) (fun _ => kf)) ?_
         rintro _ _ ⟨b5_11, rfl, rfl⟩
         refine s_do kf kf (st_store (off := 0) (vs := [iv state, iv head, .slice a5_9 (List.length x5_9.data) c5_9]) (c' := #[iv state, iv head, .slice a5_9 (List.length x5_9.data) c5_9]) (fun _ => kf) .here kf kf kf) ?_
         rintro _ _ ⟨rfl, rfl⟩
         refine ops_end ?_
         refine ae [(0, .pointer (some ⟨h, 0, none⟩)), (1, iv line), (4, .slice dataa (List.length data) datacap), (11, .pointer (some ⟨b5_11, 0, none⟩))] ?_
         refine at_then_normal ?_
         refine aq (x := C42 [1,1,1,1,0]) (y := C42 [1,1,1,1,1]) ?_
         refine aq (x := C42 [1,1,1,1,0,0]) (y := C42 [1,1,1,1,0,1]) ?_
         refine ar (id := 6) 3 ?_
         refine sp 68 (.slice dataa (List.length data) datacap) ?_
         refine sp 69 (iv (((List.length data) : Nat) : Int)) ?_
         refine sp 70 (.bool (decide ((0 : Int) < (((List.length data) : Nat) : Int)))) ?_
         refine ops_end ?_
         refine ae [(0, .pointer (some ⟨h, 0, none⟩)), (1, iv line), (4, .slice dataa (List.length data) datacap), (11, .pointer (some ⟨b5_11, 0, none⟩)), (70, .bool (decide ((0 : Int) < (((List.length data) : Nat) : Int))))] ?_
         refine at_then_normal ?_
         rcases Bool.eq_false_or_eq_true (decide ((0 : Int) < (((List.length data) : Nat) : Int))) with h9 | h9
         ·replace H := bifT H h9
          refine at_true (t := decide ((0 : Int) < (((List.length data) : Nat) : Int))) (x := C42 [1,1,1,1,0,1,0]) (y := C42 [1,1,1,1,0,1,1]) (o := .tmp 70) kf kf kf h9 ?_
          refine ar (id := 7) 4 ?_
          refine sp 71 (.slice dataa (List.length data) datacap) ?_
          obtain ⟨hc7_1_0, H⟩ := chkE H
          obtain ⟨l7_1, hl7_1, H⟩ := letE H
          refine s_step 72 kf kf (StepTo.conv (fun w hw => RowsA.none_mk (k := 1) (a := none) hw) (st_append_ints (xs := ([] : List Int)) (ys := data) (zs := l7_1) (m1 := 0) (m2 := (List.length data)) (m := List.length l7_1) (cap2 := datacap) 22 22 3 (tinfo 3) (fun _ => kf) kf kf kf kf kf .here (Reads.conv (fun w hw => hw.less (.drop .here (.drop .here (.drop .here (.drop .here (.drop .here (.drop .here (.drop .here (.drop .here .refl))))))))) hrdataa) (by first | rfl | simp) (by first | rfl | simp) (by rw [← hl7_1]; first | done | simp) (by rw [← hl7_1]; first | done | simp) (by rw [← hl7_1]; exact hc7_1_0))) ?_
          rintro _ _ ⟨a7_1, c7_1, rfl, rfl⟩
          refine sp 73 (.pointer (some ⟨b5_11, 2, none⟩)) ?_
          refine s_do kf kf (st_store (off := 2) (vs := [.slice a7_1 (List.length l7_1) c7_1]) (c' := #[iv state, iv head, .slice a7_1 (List.length l7_1) c7_1]) (fun _ => kf) (.there .here) kf kf kf) ?_
          rintro _ _ ⟨rfl, rfl⟩
          refine ops_end ?_
          refine ae [(0, .pointer (some ⟨h, 0, none⟩)), (1, iv line), (11, .pointer (some ⟨b5_11, 0, none⟩))] ?_
          refine at_then_normal ?_
          refine aq (x := C42 [1,1,1,1,1,0]) (y := C42 [1,1,1,1,1,1]) ?_
          refine at_region_draw (id := 8) kf kf ?_
          refine dp 0 74 (.pointer (some ⟨h, 0, none⟩)) ?_
          refine dp 1 75 (.pointer (some ⟨h, 0, none⟩)) ?_
          refine dp 2 76 (.pointer (some ⟨h, 9, none⟩)) ?_
          refine dl 3 77 (.slice x1_2_h.a9 (List.length hc.r) x1_2_h.c9) (load1 (off := 9) (fun _ => kf) (holds_own (.there (.there (.there .here)))) kf) ?_
          refine dp 4 78 (iv line) ?_
          refine dl 5 79 (.agg #[iv state, iv head, .slice a7_1 (List.length l7_1) c7_1]) (loadN (off := 0) (vs := [iv state, iv head, .slice a7_1 (List.length l7_1) c7_1]) 3 (fun _ => kf) (holds_own .here) rfl (by exact ⟨rfl, rfl, rfl, trivial⟩)) ?_
          obtain ⟨hc8_6_0, H⟩ := chkE H
          refine rd_at_draw (RecsX.rd (α := RowS) (.there (.there (.there (.there (.there .here)))))) (by have := hc8_6_0; omega) ?_
          intro bb2 oo2 ha2
          refine d_pure 6 80 (.pointer (some ⟨bb2, oo2 + (((line).toNat) * 3 + 0), none⟩)) kf kf kf (index_at (t := 54) (sz := 3) (E := 82) (a := x1_2_h.a9) (m := (List.length hc.r)) (c := x1_2_h.c9) (b := bb2) (off := oo2) (i := (line).toNat) (tinfo 82) (fun _ => kf) kf kf kf ha2 (idx_cast hc8_6_0) (idx_nat hc8_6_0) rfl) ?_
          refine Draw.convS (Γ' := (ImmI a7_1 l7_1) :: (Asn.own b5_11 (.cells #[iv state, iv head, .slice a7_1 (List.length l7_1) c7_1] 82 (0, 0))) :: (ImmI a5_9 x5_9.data) :: (Asn.own h (.cells #[iv hc.c.nodes, iv hc.c.lines, iv hc.c.words, iv hc.c.sets, iv hc.c.ways, iv hc.c.out, iv hc.c.inn, .slice x1_2_h.a7 (List.length hc.c.init) x1_2_h.c7, iv hc.node, .slice x1_2_h.a9 (List.length hc.r) x1_2_h.c9, .slice x1_2_h.a10 (List.length hc.owner) x1_2_h.c10, .slice x1_2_h.a11 (List.length hc.wait) x1_2_h.c11] x1_2_h.T (0, 0))) :: (ImmI x1_2_h.a7 hc.c.init) :: (RecsX (α := RowS) x1_2_h.r9 x1_2_h.a9 x1_2_h.c9 hc.r) :: (RowsN 2 x1_2_h.a10 x1_2_h.c10 hc.owner) :: (RowsN 3 x1_2_h.a11 x1_2_h.c11 hc.wait) :: Γ) (fun w hw => RowsA.freeze (hw.pull (.there .here))) (stable_cons 5 79 (.agg #[iv state, iv head, .slice a7_1 (List.length l7_1) c7_1]) kf kf kf (loadN (off := 0) (vs := [iv state, iv head, .slice a7_1 (List.length l7_1) c7_1]) 3 (fun _ => kf) (holds_own (.there .here)) rfl (by exact ⟨rfl, rfl, rfl, trivial⟩)) (stable_cons 3 77 (.slice x1_2_h.a9 (List.length hc.r) x1_2_h.c9) kf kf kf (load1 (off := 9) (fun _ => kf) (holds_own (.there (.there (.there .here)))) kf) stable_nil)) ?_
          obtain ⟨l8_7, hl8_7, H⟩ := letE H
          refine d_do 7 [6, 5, 0, 1, 2, 3, 4] [] [] kf kf kf (st_recs_set (α := RowS) (⟨state, head, l7_1⟩ : RowS) c7_1 (vs := [iv state, iv head, .slice a7_1 (List.length l7_1) c7_1]) rfl (fun _ => kf) (.there (.there (.there (.there (.there .here))))) .here ha2 hc8_6_0 rfl) ?_
          rintro _ _ ⟨rowsl8_7, rfl, rfl⟩
          have hsl8_7 : List.set hc.r (line).toNat (⟨state, head, l7_1⟩ : RowS) = l8_7 := hl8_7
          rw [hsl8_7]
          have hnl8_7 : List.length hc.r = List.length l8_7 := by rw [← hsl8_7]; simp
          try rw [hnl8_7]
          refine ⟨stable_nil, ?_⟩
          refine draw_end kf ?_
          refine At.env [] trivial ?_
          refine at_then_normal ?_
          refine aq (x := C42 [1,1,1,1,1,1,0]) (y := C42 [1,1,1,1,1,1,1]) ?_
          refine ar (id := 9) 1 ?_
          refine sp 10 (iv (0)) ?_
          refine ops_end ?_
          refine ae [(10, iv (0))] ?_
          refine at_then_normal ?_
          refine at_ret kf ?_
          refine At.conv (Γ' := (HomesXA h (⟨x1_2_h.a7, x1_2_h.c7, x1_2_h.a9, x1_2_h.c9, rowsl8_7, x1_2_h.a10, x1_2_h.c10, x1_2_h.a11, x1_2_h.c11, x1_2_h.T⟩ : HomesXP) ({ c := hc.c, node := hc.node, r := l8_7, owner := hc.owner, wait := hc.wait } : HomesS)) :: (ImmI x1_2_h.a7 hc.c.init) :: (Asn.own b5_11 (.cells #[iv state, iv head, .slice a7_1 (List.length l7_1) c7_1] 82 (0, 0))) :: (ImmI a5_9 x5_9.data) :: Γ) (fun w hw => HomesXA.close (x := (⟨x1_2_h.a7, x1_2_h.c7, x1_2_h.a9, x1_2_h.c9, rowsl8_7, x1_2_h.a10, x1_2_h.c10, x1_2_h.a11, x1_2_h.c11, x1_2_h.T⟩ : HomesXP)) (t := ({ c := hc.c, node := hc.node, r := l8_7, owner := hc.owner, wait := hc.wait } : HomesS)) (Sat.less (.take (.there (.there (.there (.there (.there .here))))) (.take .here (.take (.there .here) (.take (.there (.there (.there .here))) (.take (.there (.there (.there .here))) (.take .here (.take .here (.take .here .refl)))))))) (ImmR.dup (Sat.less (.take (.there (.there (.there (.there .here)))) (.take .here (.take .here (.take .here (.take .here (.take .here (.take .here .refl))))))) hw)))) ?_
          refine At.conv (Γ' := (HomesA h ({ c := hc.c, node := hc.node, r := l8_7, owner := hc.owner, wait := hc.wait } : HomesS)) :: (ImmI x1_2_h.a7 hc.c.init) :: (Asn.own b5_11 (.cells #[iv state, iv head, .slice a7_1 (List.length l7_1) c7_1] 82 (0, 0))) :: (ImmI a5_9 x5_9.data) :: Γ) (fun w hw => HomesXA.shut (hw.pull .here)) ?_
          obtain rfl := someE H
          refine at_backR [iv (0)] ((HomesA h ({ c := hc.c, node := hc.node, r := l8_7, owner := hc.owner, wait := hc.wait } : HomesS)) :: Γ) (rs := [.tmp 10]) kf (.cons (.tmp kf) .nil) (fun w hw => (Sat.less (.take .here (.drop .here (.drop .here (.drop .here .refl)))) hw)) ?_
          exact ⟨rfl, rfl⟩
         ·replace H := bifF H h9
          refine at_false (t := decide ((0 : Int) < (((List.length data) : Nat) : Int))) (x := C42 [1,1,1,1,0,1,0]) (y := C42 [1,1,1,1,0,1,1]) (o := .tmp 70) kf kf kf h9 ?_
          refine at_skip kf ?_
          refine at_then_normal ?_
          refine aq (x := C42 [1,1,1,1,1,0]) (y := C42 [1,1,1,1,1,1]) ?_
          refine at_region_draw (id := 8) kf kf ?_
          refine dp 0 74 (.pointer (some ⟨h, 0, none⟩)) ?_
          refine dp 1 75 (.pointer (some ⟨h, 0, none⟩)) ?_
          refine dp 2 76 (.pointer (some ⟨h, 9, none⟩)) ?_
          refine dl 3 77 (.slice x1_2_h.a9 (List.length hc.r) x1_2_h.c9) (load1 (off := 9) (fun _ => kf) (holds_own (.there (.there .here))) kf) ?_
          refine dp 4 78 (iv line) ?_
          refine dl 5 79 (.agg #[iv state, iv head, .slice a5_9 (List.length x5_9.data) c5_9]) (loadN (off := 0) (vs := [iv state, iv head, .slice a5_9 (List.length x5_9.data) c5_9]) 3 (fun _ => kf) (holds_own .here) rfl (by exact ⟨rfl, rfl, rfl, trivial⟩)) ?_
          obtain ⟨hc8_6_0, H⟩ := chkE H
          refine rd_at_draw (RecsX.rd (α := RowS) (.there (.there (.there (.there .here))))) (by have := hc8_6_0; omega) ?_
          intro bb3 oo3 ha3
          refine d_pure 6 80 (.pointer (some ⟨bb3, oo3 + (((line).toNat) * 3 + 0), none⟩)) kf kf kf (index_at (t := 54) (sz := 3) (E := 82) (a := x1_2_h.a9) (m := (List.length hc.r)) (c := x1_2_h.c9) (b := bb3) (off := oo3) (i := (line).toNat) (tinfo 82) (fun _ => kf) kf kf kf ha3 (idx_cast hc8_6_0) (idx_nat hc8_6_0) rfl) ?_
          obtain ⟨l8_7, hl8_7, H⟩ := letE H
          refine d_do 7 [6, 5, 0, 1, 2, 3, 4] [] [] kf kf kf (st_recs_set (α := RowS) (⟨state, head, x5_9.data⟩ : RowS) c5_9 (vs := [iv state, iv head, .slice a5_9 (List.length x5_9.data) c5_9]) rfl (fun _ => kf) (.there (.there (.there (.there .here)))) (.there .here) ha3 hc8_6_0 rfl) ?_
          rintro _ _ ⟨rowsl8_7, rfl, rfl⟩
          have hsl8_7 : List.set hc.r (line).toNat (⟨state, head, x5_9.data⟩ : RowS) = l8_7 := hl8_7
          rw [hsl8_7]
          have hnl8_7 : List.length hc.r = List.length l8_7 := by rw [← hsl8_7]; simp
          try rw [hnl8_7]
          refine ⟨stable_nil, ?_⟩
          refine draw_end kf ?_
          refine At.env [] trivial ?_
          refine at_then_normal ?_
          refine aq (x := C42 [1,1,1,1,1,1,0]) (y := C42 [1,1,1,1,1,1,1]) ?_
          refine ar (id := 9) 1 ?_
          refine sp 10 (iv (0)) ?_
          refine ops_end ?_
          refine ae [(10, iv (0))] ?_
          refine at_then_normal ?_
          refine at_ret kf ?_
          refine At.conv (Γ' := (HomesXA h (⟨x1_2_h.a7, x1_2_h.c7, x1_2_h.a9, x1_2_h.c9, rowsl8_7, x1_2_h.a10, x1_2_h.c10, x1_2_h.a11, x1_2_h.c11, x1_2_h.T⟩ : HomesXP) ({ c := hc.c, node := hc.node, r := l8_7, owner := hc.owner, wait := hc.wait } : HomesS)) :: (ImmI x1_2_h.a7 hc.c.init) :: (Asn.own b5_11 (.cells #[iv state, iv head, .slice a5_9 (List.length x5_9.data) c5_9] 82 (0, 0))) :: Γ) (fun w hw => HomesXA.close (x := (⟨x1_2_h.a7, x1_2_h.c7, x1_2_h.a9, x1_2_h.c9, rowsl8_7, x1_2_h.a10, x1_2_h.c10, x1_2_h.a11, x1_2_h.c11, x1_2_h.T⟩ : HomesXP)) (t := ({ c := hc.c, node := hc.node, r := l8_7, owner := hc.owner, wait := hc.wait } : HomesS)) (Sat.less (.take (.there (.there (.there (.there .here)))) (.take .here (.take (.there .here) (.take (.there (.there .here)) (.take (.there (.there .here)) (.take .here (.take .here .refl))))))) (ImmR.dup (Sat.less (.take (.there (.there (.there .here))) (.take .here (.take .here (.take .here (.take .here (.take .here .refl)))))) hw)))) ?_
          refine At.conv (Γ' := (HomesA h ({ c := hc.c, node := hc.node, r := l8_7, owner := hc.owner, wait := hc.wait } : HomesS)) :: (ImmI x1_2_h.a7 hc.c.init) :: (Asn.own b5_11 (.cells #[iv state, iv head, .slice a5_9 (List.length x5_9.data) c5_9] 82 (0, 0))) :: Γ) (fun w hw => HomesXA.shut (hw.pull .here)) ?_
          obtain rfl := someE H
          refine at_backR [iv (0)] ((HomesA h ({ c := hc.c, node := hc.node, r := l8_7, owner := hc.owner, wait := hc.wait } : HomesS)) :: Γ) (rs := [.tmp 10]) kf (.cons (.tmp kf) .nil) (fun w hw => (Sat.less (.take .here (.drop .here (.drop .here .refl))) hw)) ?_
          exact ⟨rfl, rfl⟩
       ·replace H := bifF H h7
        refine sr 46 (.bool false) (run_eq (v := .bool (decide ((0 : Int) < (((List.length data) : Nat) : Int)))) (fun _ => kf) (congrArg Value.bool h7)) ?_
        refine sa 47 ?_
        refine sa 48 ?_
        refine sa 49 ?_
        refine sa 50 ?_
        refine sa 51 ?_
        refine sa 52 ?_
        refine sa 53 ?_
        refine sa 54 ?_
        refine sp 55 (.bool false) ?_
        refine sp 56 (.bool false) ?_
        refine ops_end ?_
        refine ae [(0, .pointer (some ⟨h, 0, none⟩)), (1, iv line), (2, iv state), (3, iv head), (4, .slice dataa (List.length data) datacap), (56, .bool false)] ?_
        refine at_then_normal ?_
        refine at_false (t := false) (x := C42 [1,1,0,1,0]) (y := C42 [1,1,0,1,1]) (o := .tmp 56) kf kf kf rfl ?_
        refine at_skip kf ?_
        refine at_then_normal ?_
        refine aq (x := C42 [1,1,1,0]) (y := C42 [1,1,1,1]) ?_
        refine ar (id := 5) 13 ?_
        refine sp 57 (iv state) ?_
        refine sp 58 (iv head) ?_
        refine sp 59 (.pointer (some ⟨h, 0, none⟩)) ?_
        refine sp 60 (.pointer (some ⟨h, 0, none⟩)) ?_
        refine sp 61 (.pointer (some ⟨h, 9, none⟩)) ?_
        refine sl 62 (.slice x1_2_h.a9 (List.length hc.r) x1_2_h.c9) (load1 (off := 9) (fun _ => kf) (holds_own .here) kf) ?_
        refine sp 63 (iv line) ?_
        obtain ⟨hc5_7_0, H⟩ := chkE H
        refine rd_at (RecsX.rd (α := RowS) (.there (.there .here))) (by have := hc5_7_0; omega) ?_
        intro bb4 oo4 ha4
        refine sr 64 (.pointer (some ⟨bb4, oo4 + (((line).toNat) * 3 + 0), none⟩)) (index_at (t := 54) (sz := 3) (E := 82) (a := x1_2_h.a9) (m := (List.length hc.r)) (c := x1_2_h.c9) (b := bb4) (off := oo4) (i := (line).toNat) (tinfo 82) (fun _ => kf) kf kf kf ha4 (idx_cast hc5_7_0) (idx_nat hc5_7_0) rfl) ?_
        refine sr 65 (.pointer (some ⟨bb4, oo4 + (((line).toNat) * 3 + 2), none⟩)) (field_at (f := 2) (addr := ⟨bb4, oo4 + (((line).toNat) * 3 + 0), none⟩) (fun _ => kf) rfl rfl) ?_
        obtain ⟨x5_9, hx5_9, H⟩ := letE H
        refine rd_get (RecsX.rd (α := RowS) (.there (.there .here))) hc5_7_0 ?_
        intro a5_9 c5_9 hrx5_9
        rw [hx5_9] at hrx5_9 ⊢
        refine sl 66 (.slice a5_9 (List.length x5_9.data) c5_9) (load1_at (off := oo4 + ((line).toNat * 3 + 2)) (v := .slice a5_9 (List.length x5_9.data) c5_9) (fun _ => kf) rfl (rd_row (RecsX.rd (α := RowS) (.there (.there (.there .here)))) ha4 hrx5_9 rfl)) ?_
        refine sp 67 (.agg #[iv state, iv head, .slice a5_9 (List.length x5_9.data) c5_9]) ?_
        refine s_step 11 kf kf (st_new (T := 82) (cells := #[iv (0), iv (0), .slice none 0 0]) (fun a => .pointer (some a)) (fun _ => kf)) ?_
        rintro _ _ ⟨b5_11, rfl, rfl⟩
        refine s_do kf kf (st_store (off := 0) (vs := [iv state, iv head, .slice a5_9 (List.length x5_9.data) c5_9]) (c' := #[iv state, iv head, .slice a5_9 (List.length x5_9.data) c5_9]) (fun _ => kf) .here kf kf kf) ?_
        rintro _ _ ⟨rfl, rfl⟩
        refine ops_end ?_
        refine ae [(0, .pointer (some ⟨h, 0, none⟩)), (1, iv line), (4, .slice dataa (List.length data) datacap), (11, .pointer (some ⟨b5_11, 0, none⟩))] ?_
        refine at_then_normal ?_
        refine aq (x := C42 [1,1,1,1,0]) (y := C42 [1,1,1,1,1]) ?_
        refine aq (x := C42 [1,1,1,1,0,0]) (y := C42 [1,1,1,1,0,1]) ?_
        refine ar (id := 6) 3 ?_
        refine sp 68 (.slice dataa (List.length data) datacap) ?_
        refine sp 69 (iv (((List.length data) : Nat) : Int)) ?_
        refine sp 70 (.bool (decide ((0 : Int) < (((List.length data) : Nat) : Int)))) ?_
        refine ops_end ?_
        refine ae [(0, .pointer (some ⟨h, 0, none⟩)), (1, iv line), (4, .slice dataa (List.length data) datacap), (11, .pointer (some ⟨b5_11, 0, none⟩)), (70, .bool (decide ((0 : Int) < (((List.length data) : Nat) : Int))))] ?_
        refine at_then_normal ?_
        rcases Bool.eq_false_or_eq_true (decide ((0 : Int) < (((List.length data) : Nat) : Int))) with h10 | h10
        ·replace H := bifT H h10
         refine at_true (t := decide ((0 : Int) < (((List.length data) : Nat) : Int))) (x := C42 [1,1,1,1,0,1,0]) (y := C42 [1,1,1,1,0,1,1]) (o := .tmp 70) kf kf kf h10 ?_
         refine ar (id := 7) 4 ?_
         refine sp 71 (.slice dataa (List.length data) datacap) ?_
         obtain ⟨hc7_1_0, H⟩ := chkE H
         obtain ⟨l7_1, hl7_1, H⟩ := letE H
         refine s_step 72 kf kf (StepTo.conv (fun w hw => RowsA.none_mk (k := 1) (a := none) hw) (st_append_ints (xs := ([] : List Int)) (ys := data) (zs := l7_1) (m1 := 0) (m2 := (List.length data)) (m := List.length l7_1) (cap2 := datacap) 22 22 3 (tinfo 3) (fun _ => kf) kf kf kf kf kf .here (Reads.conv (fun w hw => hw.less (.drop .here (.drop .here (.drop .here (.drop .here (.drop .here (.drop .here (.drop .here (.drop .here .refl))))))))) hrdataa) (by first | rfl | simp) (by first | rfl | simp) (by rw [← hl7_1]; first | done | simp) (by rw [← hl7_1]; first | done | simp) (by rw [← hl7_1]; exact hc7_1_0))) ?_
         rintro _ _ ⟨a7_1, c7_1, rfl, rfl⟩
         refine sp 73 (.pointer (some ⟨b5_11, 2, none⟩)) ?_
         refine s_do kf kf (st_store (off := 2) (vs := [.slice a7_1 (List.length l7_1) c7_1]) (c' := #[iv state, iv head, .slice a7_1 (List.length l7_1) c7_1]) (fun _ => kf) (.there .here) kf kf kf) ?_
         rintro _ _ ⟨rfl, rfl⟩
         refine ops_end ?_
         refine ae [(0, .pointer (some ⟨h, 0, none⟩)), (1, iv line), (11, .pointer (some ⟨b5_11, 0, none⟩))] ?_
         refine at_then_normal ?_
         refine aq (x := C42 [1,1,1,1,1,0]) (y := C42 [1,1,1,1,1,1]) ?_
         refine at_region_draw (id := 8) kf kf ?_
         refine dp 0 74 (.pointer (some ⟨h, 0, none⟩)) ?_
         refine dp 1 75 (.pointer (some ⟨h, 0, none⟩)) ?_
         refine dp 2 76 (.pointer (some ⟨h, 9, none⟩)) ?_
         refine dl 3 77 (.slice x1_2_h.a9 (List.length hc.r) x1_2_h.c9) (load1 (off := 9) (fun _ => kf) (holds_own (.there (.there (.there .here)))) kf) ?_
         refine dp 4 78 (iv line) ?_
         refine dl 5 79 (.agg #[iv state, iv head, .slice a7_1 (List.length l7_1) c7_1]) (loadN (off := 0) (vs := [iv state, iv head, .slice a7_1 (List.length l7_1) c7_1]) 3 (fun _ => kf) (holds_own .here) rfl (by exact ⟨rfl, rfl, rfl, trivial⟩)) ?_
         obtain ⟨hc8_6_0, H⟩ := chkE H
         refine rd_at_draw (RecsX.rd (α := RowS) (.there (.there (.there (.there (.there .here)))))) (by have := hc8_6_0; omega) ?_
         intro bb5 oo5 ha5
         refine d_pure 6 80 (.pointer (some ⟨bb5, oo5 + (((line).toNat) * 3 + 0), none⟩)) kf kf kf (index_at (t := 54) (sz := 3) (E := 82) (a := x1_2_h.a9) (m := (List.length hc.r)) (c := x1_2_h.c9) (b := bb5) (off := oo5) (i := (line).toNat) (tinfo 82) (fun _ => kf) kf kf kf ha5 (idx_cast hc8_6_0) (idx_nat hc8_6_0) rfl) ?_
         refine Draw.convS (Γ' := (ImmI a7_1 l7_1) :: (Asn.own b5_11 (.cells #[iv state, iv head, .slice a7_1 (List.length l7_1) c7_1] 82 (0, 0))) :: (ImmI a5_9 x5_9.data) :: (Asn.own h (.cells #[iv hc.c.nodes, iv hc.c.lines, iv hc.c.words, iv hc.c.sets, iv hc.c.ways, iv hc.c.out, iv hc.c.inn, .slice x1_2_h.a7 (List.length hc.c.init) x1_2_h.c7, iv hc.node, .slice x1_2_h.a9 (List.length hc.r) x1_2_h.c9, .slice x1_2_h.a10 (List.length hc.owner) x1_2_h.c10, .slice x1_2_h.a11 (List.length hc.wait) x1_2_h.c11] x1_2_h.T (0, 0))) :: (ImmI x1_2_h.a7 hc.c.init) :: (RecsX (α := RowS) x1_2_h.r9 x1_2_h.a9 x1_2_h.c9 hc.r) :: (RowsN 2 x1_2_h.a10 x1_2_h.c10 hc.owner) :: (RowsN 3 x1_2_h.a11 x1_2_h.c11 hc.wait) :: Γ) (fun w hw => RowsA.freeze (hw.pull (.there .here))) (stable_cons 5 79 (.agg #[iv state, iv head, .slice a7_1 (List.length l7_1) c7_1]) kf kf kf (loadN (off := 0) (vs := [iv state, iv head, .slice a7_1 (List.length l7_1) c7_1]) 3 (fun _ => kf) (holds_own (.there .here)) rfl (by exact ⟨rfl, rfl, rfl, trivial⟩)) (stable_cons 3 77 (.slice x1_2_h.a9 (List.length hc.r) x1_2_h.c9) kf kf kf (load1 (off := 9) (fun _ => kf) (holds_own (.there (.there (.there .here)))) kf) stable_nil)) ?_
         obtain ⟨l8_7, hl8_7, H⟩ := letE H
         refine d_do 7 [6, 5, 0, 1, 2, 3, 4] [] [] kf kf kf (st_recs_set (α := RowS) (⟨state, head, l7_1⟩ : RowS) c7_1 (vs := [iv state, iv head, .slice a7_1 (List.length l7_1) c7_1]) rfl (fun _ => kf) (.there (.there (.there (.there (.there .here))))) .here ha5 hc8_6_0 rfl) ?_
         rintro _ _ ⟨rowsl8_7, rfl, rfl⟩
         have hsl8_7 : List.set hc.r (line).toNat (⟨state, head, l7_1⟩ : RowS) = l8_7 := hl8_7
         rw [hsl8_7]
         have hnl8_7 : List.length hc.r = List.length l8_7 := by rw [← hsl8_7]; simp
         try rw [hnl8_7]
         refine ⟨stable_nil, ?_⟩
         refine draw_end kf ?_
         refine At.env [] trivial ?_
         refine at_then_normal ?_
         refine aq (x := C42 [1,1,1,1,1,1,0]) (y := C42 [1,1,1,1,1,1,1]) ?_
         refine ar (id := 9) 1 ?_
         refine sp 10 (iv (0)) ?_
         refine ops_end ?_
         refine ae [(10, iv (0))] ?_
         refine at_then_normal ?_
         refine at_ret kf ?_
         refine At.conv (Γ' := (HomesXA h (⟨x1_2_h.a7, x1_2_h.c7, x1_2_h.a9, x1_2_h.c9, rowsl8_7, x1_2_h.a10, x1_2_h.c10, x1_2_h.a11, x1_2_h.c11, x1_2_h.T⟩ : HomesXP) ({ c := hc.c, node := hc.node, r := l8_7, owner := hc.owner, wait := hc.wait } : HomesS)) :: (ImmI x1_2_h.a7 hc.c.init) :: (Asn.own b5_11 (.cells #[iv state, iv head, .slice a7_1 (List.length l7_1) c7_1] 82 (0, 0))) :: (ImmI a5_9 x5_9.data) :: Γ) (fun w hw => HomesXA.close (x := (⟨x1_2_h.a7, x1_2_h.c7, x1_2_h.a9, x1_2_h.c9, rowsl8_7, x1_2_h.a10, x1_2_h.c10, x1_2_h.a11, x1_2_h.c11, x1_2_h.T⟩ : HomesXP)) (t := ({ c := hc.c, node := hc.node, r := l8_7, owner := hc.owner, wait := hc.wait } : HomesS)) (Sat.less (.take (.there (.there (.there (.there (.there .here))))) (.take .here (.take (.there .here) (.take (.there (.there (.there .here))) (.take (.there (.there (.there .here))) (.take .here (.take .here (.take .here .refl)))))))) (ImmR.dup (Sat.less (.take (.there (.there (.there (.there .here)))) (.take .here (.take .here (.take .here (.take .here (.take .here (.take .here .refl))))))) hw)))) ?_
         refine At.conv (Γ' := (HomesA h ({ c := hc.c, node := hc.node, r := l8_7, owner := hc.owner, wait := hc.wait } : HomesS)) :: (ImmI x1_2_h.a7 hc.c.init) :: (Asn.own b5_11 (.cells #[iv state, iv head, .slice a7_1 (List.length l7_1) c7_1] 82 (0, 0))) :: (ImmI a5_9 x5_9.data) :: Γ) (fun w hw => HomesXA.shut (hw.pull .here)) ?_
         obtain rfl := someE H
         refine at_backR [iv (0)] ((HomesA h ({ c := hc.c, node := hc.node, r := l8_7, owner := hc.owner, wait := hc.wait } : HomesS)) :: Γ) (rs := [.tmp 10]) kf (.cons (.tmp kf) .nil) (fun w hw => (Sat.less (.take .here (.drop .here (.drop .here (.drop .here .refl)))) hw)) ?_
         exact ⟨rfl, rfl⟩
        ·replace H := bifF H h10
         refine at_false (t := decide ((0 : Int) < (((List.length data) : Nat) : Int))) (x := C42 [1,1,1,1,0,1,0]) (y := C42 [1,1,1,1,0,1,1]) (o := .tmp 70) kf kf kf h10 ?_
         refine at_skip kf ?_
         refine at_then_normal ?_
         refine aq (x := C42 [1,1,1,1,1,0]) (y := C42 [1,1,1,1,1,1]) ?_
         refine at_region_draw (id := 8) kf kf ?_
         refine dp 0 74 (.pointer (some ⟨h, 0, none⟩)) ?_
         refine dp 1 75 (.pointer (some ⟨h, 0, none⟩)) ?_
         refine dp 2 76 (.pointer (some ⟨h, 9, none⟩)) ?_
         refine dl 3 77 (.slice x1_2_h.a9 (List.length hc.r) x1_2_h.c9) (load1 (off := 9) (fun _ => kf) (holds_own (.there (.there .here))) kf) ?_
         refine dp 4 78 (iv line) ?_
         refine dl 5 79 (.agg #[iv state, iv head, .slice a5_9 (List.length x5_9.data) c5_9]) (loadN (off := 0) (vs := [iv state, iv head, .slice a5_9 (List.length x5_9.data) c5_9]) 3 (fun _ => kf) (holds_own .here) rfl (by exact ⟨rfl, rfl, rfl, trivial⟩)) ?_
         obtain ⟨hc8_6_0, H⟩ := chkE H
         refine rd_at_draw (RecsX.rd (α := RowS) (.there (.there (.there (.there .here))))) (by have := hc8_6_0; omega) ?_
         intro bb6 oo6 ha6
         refine d_pure 6 80 (.pointer (some ⟨bb6, oo6 + (((line).toNat) * 3 + 0), none⟩)) kf kf kf (index_at (t := 54) (sz := 3) (E := 82) (a := x1_2_h.a9) (m := (List.length hc.r)) (c := x1_2_h.c9) (b := bb6) (off := oo6) (i := (line).toNat) (tinfo 82) (fun _ => kf) kf kf kf ha6 (idx_cast hc8_6_0) (idx_nat hc8_6_0) rfl) ?_
         obtain ⟨l8_7, hl8_7, H⟩ := letE H
         refine d_do 7 [6, 5, 0, 1, 2, 3, 4] [] [] kf kf kf (st_recs_set (α := RowS) (⟨state, head, x5_9.data⟩ : RowS) c5_9 (vs := [iv state, iv head, .slice a5_9 (List.length x5_9.data) c5_9]) rfl (fun _ => kf) (.there (.there (.there (.there .here)))) (.there .here) ha6 hc8_6_0 rfl) ?_
         rintro _ _ ⟨rowsl8_7, rfl, rfl⟩
         have hsl8_7 : List.set hc.r (line).toNat (⟨state, head, x5_9.data⟩ : RowS) = l8_7 := hl8_7
         rw [hsl8_7]
         have hnl8_7 : List.length hc.r = List.length l8_7 := by rw [← hsl8_7]; simp
         try rw [hnl8_7]
         refine ⟨stable_nil, ?_⟩
         refine draw_end kf ?_
         refine At.env [] trivial ?_
         refine at_then_normal ?_
         refine aq (x := C42 [1,1,1,1,1,1,0]) (y := C42 [1,1,1,1,1,1,1]) ?_
         refine ar (id := 9) 1 ?_
         refine sp 10 (iv (0)) ?_
         refine ops_end ?_
         refine ae [(10, iv (0))] ?_
         refine at_then_normal ?_
         refine at_ret kf ?_
         refine At.conv (Γ' := (HomesXA h (⟨x1_2_h.a7, x1_2_h.c7, x1_2_h.a9, x1_2_h.c9, rowsl8_7, x1_2_h.a10, x1_2_h.c10, x1_2_h.a11, x1_2_h.c11, x1_2_h.T⟩ : HomesXP) ({ c := hc.c, node := hc.node, r := l8_7, owner := hc.owner, wait := hc.wait } : HomesS)) :: (ImmI x1_2_h.a7 hc.c.init) :: (Asn.own b5_11 (.cells #[iv state, iv head, .slice a5_9 (List.length x5_9.data) c5_9] 82 (0, 0))) :: Γ) (fun w hw => HomesXA.close (x := (⟨x1_2_h.a7, x1_2_h.c7, x1_2_h.a9, x1_2_h.c9, rowsl8_7, x1_2_h.a10, x1_2_h.c10, x1_2_h.a11, x1_2_h.c11, x1_2_h.T⟩ : HomesXP)) (t := ({ c := hc.c, node := hc.node, r := l8_7, owner := hc.owner, wait := hc.wait } : HomesS)) (Sat.less (.take (.there (.there (.there (.there .here)))) (.take .here (.take (.there .here) (.take (.there (.there .here)) (.take (.there (.there .here)) (.take .here (.take .here .refl))))))) (ImmR.dup (Sat.less (.take (.there (.there (.there .here))) (.take .here (.take .here (.take .here (.take .here (.take .here .refl)))))) hw)))) ?_
         refine At.conv (Γ' := (HomesA h ({ c := hc.c, node := hc.node, r := l8_7, owner := hc.owner, wait := hc.wait } : HomesS)) :: (ImmI x1_2_h.a7 hc.c.init) :: (Asn.own b5_11 (.cells #[iv state, iv head, .slice a5_9 (List.length x5_9.data) c5_9] 82 (0, 0))) :: Γ) (fun w hw => HomesXA.shut (hw.pull .here)) ?_
         obtain rfl := someE H
         refine at_backR [iv (0)] ((HomesA h ({ c := hc.c, node := hc.node, r := l8_7, owner := hc.owner, wait := hc.wait } : HomesS)) :: Γ) (rs := [.tmp 10]) kf (.cons (.tmp kf) .nil) (fun w hw => (Sat.less (.take .here (.drop .here (.drop .here .refl))) hw)) ?_
         exact ⟨rfl, rfl⟩
def sgrantedS (hc : HomesS) (line : Int) (who : Int) (id : Int) : Option (PktS) :=
 chk (0 ≤ line ∧ line < ((List.length hc.r : Nat) : Int)) (letP (nthT hc.r line) fun x1_6 => chk ((x1_6.data).length ≤ 1099511627776) (letP (x1_6.data) fun l2_13 => some (⟨7, hc.node, who, id, line, x1_6.head, x1_6.state, false, l2_13⟩ : PktS)))
noncomputable def C37 (p : List Nat) : Code := codeAt (bodyOf Try.f37) p
set_option maxRecDepth 100000 in
set_option maxHeartbeats 8000000 in
theorem SGrantedF_tr {W0 : World} {Γ : List Asn} (h : Nat) (hx : HomesXP) (hc : HomesS) (line : Int) (who : Int) (id : Int)  (y : PktS) (H : sgrantedS hc line who id = some y) : Tr Try.prog 37 #[.pointer (some ⟨h, 0, none⟩), iv line, iv who, iv id] W0 ((HomesXA h hx hc) :: Γ) (fun r Δ => ∃ (a0_0 : Option Addr) (c0_0 : Nat), r = .agg #[iv y.kind, iv y.src, iv y.dst, iv y.id, iv y.line, iv y.ptr, iv y.state, .bool y.flag, .slice a0_0 (List.length y.data) c0_0] ∧ Δ = (IntsA a0_0 c0_0 y.data) :: (HomesXA h hx hc) :: Γ) := by
 unfold sgrantedS at H
 refine Tr.enter (fn := Try.f37) (c := C37 []) (args := [.pointer (some ⟨h, 0, none⟩), iv line, iv who, iv id]) 32 Try.func37 kf kf ?_
 refine ae [(0, .pointer (some ⟨h, 0, none⟩)), (1, iv line), (2, iv who), (3, iv id)] ?_
 refine aq (x := C37 [0]) (y := C37 [1]) ?_
 refine ar (id := 0) 1 ?_
 refine s_step 8 kf kf (st_new (T := 32) (cells := #[iv (0), iv (0), iv (0), iv (0), iv (0), iv (0), iv (0), .bool false, .slice none 0 0]) (fun a => .pointer (some a)) (fun _ => kf)) ?_
 rintro _ _ ⟨b0_0, rfl, rfl⟩
 refine ops_end ?_
 refine ae [(0, .pointer (some ⟨h, 0, none⟩)), (1, iv line), (2, iv who), (3, iv id), (8, .pointer (some ⟨b0_0, 0, none⟩))] ?_
 refine at_then_normal ?_
 refine aq (x := C37 [1,0]) (y := C37 [1,1]) ?_
 refine ar (id := 1) 9 ?_
 refine sp 10 (.pointer (some ⟨h, 0, none⟩)) ?_
 refine sp 11 (.pointer (some ⟨h, 0, none⟩)) ?_
 refine sp 12 (.pointer (some ⟨h, 9, none⟩)) ?_
 refine HomesXA.open (.there .here) ?_
 refine sl 13 (.slice hx.a9 (List.length hc.r) hx.c9) (load1 (off := 9) (fun _ => kf) (holds_own .here) kf) ?_
 refine sp 14 (iv line) ?_
 obtain ⟨hc1_5_0, H⟩ := chkE H
 refine rd_at (RecsX.rd (α := RowS) (.there (.there .here))) (by have := hc1_5_0; omega) ?_
 intro bb1 oo1 ha1
 refine sr 15 (.pointer (some ⟨bb1, oo1 + (((line).toNat) * 3 + 0), none⟩)) (index_at (t := 54) (sz := 3) (E := 82) (a := hx.a9) (m := (List.length hc.r)) (c := hx.c9) (b := bb1) (off := oo1) (i := (line).toNat) (tinfo 82) (fun _ => kf) kf kf kf ha1 (idx_cast hc1_5_0) (idx_nat hc1_5_0) rfl) ?_
 obtain ⟨x1_6, hx1_6, H⟩ := letE H
 refine rd_get (RecsX.rd (α := RowS) (.there (.there .here))) hc1_5_0 ?_
 intro a1_6 c1_6 hrx1_6
 rw [hx1_6] at hrx1_6 ⊢
 refine sl 16 (.agg #[iv x1_6.state, iv x1_6.head, .slice a1_6 (List.length x1_6.data) c1_6]) (loadP_at (m := 3) (k := 3) (vs := [iv x1_6.state, iv x1_6.head, .slice a1_6 (List.length x1_6.data) c1_6]) (off := oo1) (i := (line).toNat) (j := 0) (fun _ => kf) rfl rfl (fun q v hq => rd_row (j := 0 + q) (RecsX.rd (α := RowS) (.there (.there (.there .here)))) ha1 hrx1_6 (rowP (j := 0) (m := 3) kf hq))) ?_
 refine s_step 9 kf kf (st_new (T := 82) (cells := #[iv (0), iv (0), .slice none 0 0]) (fun a => .pointer (some a)) (fun _ => kf)) ?_
 rintro _ _ ⟨b1_7, rfl, rfl⟩
 refine s_do kf kf (st_store (off := 0) (vs := [iv x1_6.state, iv x1_6.head, .slice a1_6 (List.length x1_6.data) c1_6]) (c' := #[iv x1_6.state, iv x1_6.head, .slice a1_6 (List.length x1_6.data) c1_6]) (fun _ => kf) .here kf kf kf) ?_
 rintro _ _ ⟨rfl, rfl⟩
 refine ops_end ?_
 refine ae [(0, .pointer (some ⟨h, 0, none⟩)), (1, iv line), (2, iv who), (3, iv id), (8, .pointer (some ⟨b0_0, 0, none⟩)), (9, .pointer (some ⟨b1_7, 0, none⟩))] ?_
 refine at_then_normal ?_
 refine At.conv (Γ' := (HomesXA h hx hc) :: (ImmI hx.a7 hc.c.init) :: (Asn.own b1_7 (.cells #[iv x1_6.state, iv x1_6.head, .slice a1_6 (List.length x1_6.data) c1_6] 82 (0, 0))) :: (ImmI a1_6 x1_6.data) :: (Asn.own b0_0 (.cells #[iv (0), iv (0), iv (0), iv (0), iv (0), iv (0), iv (0), .bool false, .slice none 0 0] 32 (0, 0))) :: Γ) (fun w hw => HomesXA.close (x := hx) (t := hc) (Sat.less (.take (.there (.there (.there (.there .here)))) (.take .here (.take (.there (.there (.there .here))) (.take (.there (.there (.there .here))) (.take (.there (.there (.there .here))) (.take .here (.take .here (.take .here (.take .here .refl))))))))) (ImmR.dup (Sat.less (.take (.there (.there (.there .here))) (.take .here (.take .here (.take .here (.take .here (.take .here (.take .here (.take .here .refl)))))))) hw)))) ?_
 refine aq (x := C37 [1,1,0]) (y := C37 [1,1,1]) ?_
 refine at_region_draw (id := 2) kf kf ?_
 refine dp 0 17 (.pointer (some ⟨h, 0, none⟩)) ?_
 refine dp 1 18 (.pointer (some ⟨h, 0, none⟩)) ?_
 refine dp 2 19 (.pointer (some ⟨h, 8, none⟩)) ?_
 refine HomesXA.open_draw .here ?_
 refine dl 3 20 (iv hc.node) (load1 (off := 8) (fun _ => kf) (holds_own .here) kf) ?_
 refine dp 4 21 (iv who) ?_
 refine dp 5 22 (iv id) ?_
 refine dp 6 23 (iv line) ?_
 refine dp 7 24 (.pointer (some ⟨b1_7, 1, none⟩)) ?_
 refine dl 8 25 (iv x1_6.head) (load1 (off := 1) (fun _ => kf) (holds_own (.there (.there (.there (.there (.there (.there .here))))))) kf) ?_
 refine dp 9 26 (.pointer (some ⟨b1_7, 0, none⟩)) ?_
 refine dl 10 27 (iv x1_6.state) (load1 (off := 0) (fun _ => kf) (holds_own (.there (.there (.there (.there (.there (.there .here))))))) kf) ?_
 refine dp 11 28 (.pointer (some ⟨b1_7, 2, none⟩)) ?_
 refine dl 12 29 (.slice a1_6 (List.length x1_6.data) c1_6) (load1 (off := 2) (fun _ => kf) (holds_own (.there (.there (.there (.there (.there (.there .here))))))) kf) ?_
 obtain ⟨hc2_13_0, H⟩ := chkE H
 obtain ⟨l2_13, hl2_13, H⟩ := letE H
 refine d_step 13 30 [12, 11] [9, 7, 6, 5, 4, 2, 1, 0] [10, 8, 3] kf kf kf (StepTo.conv (fun w hw => RowsA.none_mk (k := 1) (a := none) hw) (st_append_ints (xs := ([] : List Int)) (ys := x1_6.data) (zs := l2_13) (m1 := 0) (m2 := (List.length x1_6.data)) (m := List.length l2_13) (cap2 := c1_6) 22 22 3 (tinfo 3) (fun _ => kf) kf kf kf kf kf .here (ImmR.reads (k := 1) (.there (.there (.there (.there (.there (.there (.there (.there .here))))))))) (by first | rfl | simp) (by first | rfl | simp) (by rw [← hl2_13]; first | done | simp) (by rw [← hl2_13]; first | done | simp) (by rw [← hl2_13]; exact hc2_13_0))) ?_
 rintro _ _ ⟨a2_13, c2_13, rfl, rfl⟩
 refine ⟨(stable_cons 10 27 (iv x1_6.state) kf kf kf (load1 (off := 0) (fun _ => kf) (holds_own (.there (.there (.there (.there (.there (.there (.there .here)))))))) kf) (stable_cons 8 25 (iv x1_6.head) kf kf kf (load1 (off := 1) (fun _ => kf) (holds_own (.there (.there (.there (.there (.there (.there (.there .here)))))))) kf) (stable_cons 3 20 (iv hc.node) kf kf kf (load1 (off := 8) (fun _ => kf) (holds_own (.there .here)) kf) stable_nil))), ?_⟩
 refine dp 14 31 (.agg #[iv (7), iv hc.node, iv who, iv id, iv line, iv x1_6.head, iv x1_6.state, .bool false, .slice a2_13 (List.length l2_13) c2_13]) ?_
 refine d_do 15 [14, 13, 0, 1, 2, 3, 4, 5, 6, 7, 8, 9, 10, 11, 12] [] [] kf kf kf (st_store (off := 0) (vs := [iv (7), iv hc.node, iv who, iv id, iv line, iv x1_6.head, iv x1_6.state, .bool false, .slice a2_13 (List.length l2_13) c2_13]) (c' := #[iv (7), iv hc.node, iv who, iv id, iv line, iv x1_6.head, iv x1_6.state, .bool false, .slice a2_13 (List.length l2_13) c2_13]) (fun _ => kf) (.there (.there (.there (.there (.there (.there (.there (.there (.there .here))))))))) kf kf kf) ?_
 rintro _ _ ⟨rfl, rfl⟩
 refine ⟨stable_nil, ?_⟩
 refine draw_end kf ?_
 refine ae [(8, .pointer (some ⟨b0_0, 0, none⟩))] ?_
 refine at_then_normal ?_
 refine at_ret kf ?_
 refine At.conv (Γ' := (HomesXA h hx hc) :: (ImmI hx.a7 hc.c.init) :: (Asn.own b0_0 (.cells #[iv (7), iv hc.node, iv who, iv id, iv line, iv x1_6.head, iv x1_6.state, .bool false, .slice a2_13 (List.length l2_13) c2_13] 32 (0, 0))) :: (IntsA a2_13 c2_13 l2_13) :: (ImmI hx.a7 hc.c.init) :: (Asn.own b1_7 (.cells #[iv x1_6.state, iv x1_6.head, .slice a1_6 (List.length x1_6.data) c1_6] 82 (0, 0))) :: (ImmI a1_6 x1_6.data) :: Γ) (fun w hw => HomesXA.close (x := hx) (t := hc) (Sat.less (.take (.there (.there (.there (.there .here)))) (.take .here (.take (.there (.there (.there .here))) (.take (.there (.there (.there .here))) (.take (.there (.there (.there .here))) (.take .here (.take .here (.take .here (.take .here (.take .here (.take .here .refl))))))))))) (ImmR.dup (Sat.less (.take (.there (.there (.there .here))) (.take .here (.take .here (.take .here (.take .here (.take .here (.take .here (.take .here (.take .here (.take .here .refl)))))))))) hw)))) ?_
 obtain rfl := someE H
 refine at_backR [.agg #[iv (7), iv hc.node, iv who, iv id, iv line, iv x1_6.head, iv x1_6.state, .bool false, .slice a2_13 (List.length l2_13) c2_13]] ((IntsA a2_13 c2_13 l2_13) :: (HomesXA h hx hc) :: Γ) (rs := [.cell 8 32]) kf (.cons (.cell kf (retN (off := 0) (vs := [iv (7), iv hc.node, iv who, iv id, iv line, iv x1_6.head, iv x1_6.state, .bool false, .slice a2_13 (List.length l2_13) c2_13]) 9 (fun _ => kf) (holds_own (.there (.there .here))) rfl (by exact ⟨rfl, rfl, rfl, rfl, rfl, rfl, rfl, rfl, rfl, trivial⟩))) .nil) (fun w hw => (Sat.less (.take (.there (.there (.there .here))) (.take .here (.drop .here (.drop .here (.drop .here (.drop .here (.drop .here .refl))))))) hw)) ?_
 exact ⟨a2_13, c2_13, rfl, rfl⟩
def shandle7S (hc : HomesS) (p : PktS) : Option (PktS × Bool × Int × HomesS) :=
 (rrightS p).bind fun y1_1 => (bif !y1_1 then some ((⟨0, 0, 0, 0, 0, 0, 0, false, ([] : List Int)⟩ : PktS), false, (1 : Int), hc) else (bif !(decide (p.dst = hc.node)) then some ((⟨0, 0, 0, 0, 0, 0, 0, false, ([] : List Int)⟩ : PktS), false, (1 : Int), hc) else (bif decide (hc.c.nodes ≤ p.src) then some ((⟨0, 0, 0, 0, 0, 0, 0, false, ([] : List Int)⟩ : PktS), false, (1 : Int), hc) else (bif !(decide (p.kind = (1 : Int))) then (bif !(decide (p.kind = (2 : Int))) then some ((⟨0, 0, 0, 0, 0, 0, 0, false, ([] : List Int)⟩ : PktS), false, (1 : Int), hc) else (shereS hc p.line).bind fun y3_3 => (bif !y3_3 then some ((⟨0, 0, 0, 0, 0, 0, 0, false, ([] : List Int)⟩ : PktS), false, (3 : Int), hc) else (bif decide (p.kind = (1 : Int)) then (qaskS hc p.line p.src p.id).bind fun y6_9 => (bif y6_9.1 then (sgrantedS y6_9.2 p.line p.src p.id).bind fun y7_7 => some (y7_7, true, (0 : Int), y6_9.2) else some ((⟨0, 0, 0, 0, 0, 0, 0, false, ([] : List Int)⟩ : PktS), false, (0 : Int), y6_9.2)) else (qownerS hc p.line).bind fun y9_5 => (bif !(decide (y9_5 = p.src)) then some ((⟨0, 0, 0, 0, 0, 0, 0, false, ([] : List Int)⟩ : PktS), false, (6 : Int), hc) else (bif p.flag then (ssetS hc p.line p.state p.ptr p.data).bind fun y14_8 => (bif !(decide (y14_8.1 = (0 : Int))) then some ((⟨0, 0, 0, 0, 0, 0, 0, false, ([] : List Int)⟩ : PktS), false, y14_8.1, y14_8.2) else (qreleaseS y14_8.2 p.line p.src).bind fun y17_7 => some ((⟨8, y17_7.2.node, p.src, p.id, p.line, 0, 0, false, ([] : List Int)⟩ : PktS), true, (0 : Int), y17_7.2)) else (ssetS hc p.line p.state p.ptr ([] : List Int)).bind fun y14_8 => (bif !(decide (y14_8.1 = (0 : Int))) then some ((⟨0, 0, 0, 0, 0, 0, 0, false, ([] : List Int)⟩ : PktS), false, y14_8.1, y14_8.2) else (qreleaseS y14_8.2 p.line p.src).bind fun y17_7 => some ((⟨8, y17_7.2.node, p.src, p.id, p.line, 0, 0, false, ([] : List Int)⟩ : PktS), true, (0 : Int), y17_7.2))))))) else (shereS hc p.line).bind fun y3_3 => (bif !y3_3 then some ((⟨0, 0, 0, 0, 0, 0, 0, false, ([] : List Int)⟩ : PktS), false, (3 : Int), hc) else (bif decide (p.kind = (1 : Int)) then (qaskS hc p.line p.src p.id).bind fun y6_9 => (bif y6_9.1 then (sgrantedS y6_9.2 p.line p.src p.id).bind fun y7_7 => some (y7_7, true, (0 : Int), y6_9.2) else some ((⟨0, 0, 0, 0, 0, 0, 0, false, ([] : List Int)⟩ : PktS), false, (0 : Int), y6_9.2)) else (qownerS hc p.line).bind fun y9_5 => (bif !(decide (y9_5 = p.src)) then some ((⟨0, 0, 0, 0, 0, 0, 0, false, ([] : List Int)⟩ : PktS), false, (6 : Int), hc) else (bif p.flag then (ssetS hc p.line p.state p.ptr p.data).bind fun y14_8 => (bif !(decide (y14_8.1 = (0 : Int))) then some ((⟨0, 0, 0, 0, 0, 0, 0, false, ([] : List Int)⟩ : PktS), false, y14_8.1, y14_8.2) else (qreleaseS y14_8.2 p.line p.src).bind fun y17_7 => some ((⟨8, y17_7.2.node, p.src, p.id, p.line, 0, 0, false, ([] : List Int)⟩ : PktS), true, (0 : Int), y17_7.2)) else (ssetS hc p.line p.state p.ptr ([] : List Int)).bind fun y14_8 => (bif !(decide (y14_8.1 = (0 : Int))) then some ((⟨0, 0, 0, 0, 0, 0, 0, false, ([] : List Int)⟩ : PktS), false, y14_8.1, y14_8.2) else (qreleaseS y14_8.2 p.line p.src).bind fun y17_7 => some ((⟨8, y17_7.2.node, p.src, p.id, p.line, 0, 0, false, ([] : List Int)⟩ : PktS), true, (0 : Int), y17_7.2))))))))))
noncomputable def C22 (p : List Nat) : Code := codeAt (bodyOf Try.f22) p
set_option maxRecDepth 100000 in
set_option maxHeartbeats 8000000 in
theorem SHandle7F_tr {W0 : World} {Γ : List Asn} (h : Nat) (hc : HomesS) (pa : Option Addr) (pcap : Nat) (p : PktS) (hrpa : Reads W0 Γ pa (ints p.data)) (y : PktS × Bool × Int × HomesS) (H : shandle7S hc p = some y) : Tr Try.prog 22 #[.pointer (some ⟨h, 0, none⟩), .agg #[iv p.kind, iv p.src, iv p.dst, iv p.id, iv p.line, iv p.ptr, iv p.state, .bool p.flag, .slice pa (List.length p.data) pcap]] W0 ((HomesA h hc) :: Γ) (fun r Δ => ∃ (a0_0 : Option Addr) (c0_0 : Nat), r = .tuple #[.agg #[iv y.1.kind, iv y.1.src, iv y.1.dst, iv y.1.id, iv y.1.line, iv y.1.ptr, iv y.1.state, .bool y.1.flag, .slice a0_0 (List.length y.1.data) c0_0], .bool y.2.1, iv y.2.2.1] ∧ Δ = (IntsA a0_0 c0_0 y.1.data) :: (HomesA h y.2.2.2) :: Γ) := by
 unfold shandle7S at H
 refine Tr.enter (fn := Try.f22) (c := C22 []) (args := [.pointer (some ⟨h, 0, none⟩), .agg #[iv p.kind, iv p.src, iv p.dst, iv p.id, iv p.line, iv p.ptr, iv p.state, .bool p.flag, .slice pa (List.length p.data) pcap]]) 116 Try.func22 kf kf ?_
 refine ae [(0, .pointer (some ⟨h, 0, none⟩)), (1, .agg #[iv p.kind, iv p.src, iv p.dst, iv p.id, iv p.line, iv p.ptr, iv p.state, .bool p.flag, .slice pa (List.length p.data) pcap])] ?_
 refine aq (x := C22 [0]) (y := C22 [1]) ?_
 refine ar (id := 0) 4 ?_
 refine s_step 3 kf kf (st_new (T := 32) (cells := #[iv p.kind, iv p.src, iv p.dst, iv p.id, iv p.line, iv p.ptr, iv p.state, .bool p.flag, .slice pa (List.length p.data) pcap]) (fun a => .pointer (some a)) (fun _ => kf)) ?_
 rintro _ _ ⟨b0_0, rfl, rfl⟩
 refine s_step 4 kf kf (st_new (T := 32) (cells := #[iv (0), iv (0), iv (0), iv (0), iv (0), iv (0), iv (0), .bool false, .slice none 0 0]) (fun a => .pointer (some a)) (fun _ => kf)) ?_
 rintro _ _ ⟨b0_1, rfl, rfl⟩
 refine sp 5 (.bool false) ?_
 refine sp 6 (iv (0)) ?_
 refine ops_end ?_
 refine ae [(0, .pointer (some ⟨h, 0, none⟩)), (3, .pointer (some ⟨b0_0, 0, none⟩)), (4, .pointer (some ⟨b0_1, 0, none⟩))] ?_
 refine at_then_normal ?_
 refine aq (x := C22 [1,0]) (y := C22 [1,1]) ?_
 refine aq (x := C22 [1,0,0]) (y := C22 [1,0,1]) ?_
 refine at_region_draw (id := 1) kf kf ?_
 refine dl 0 9 (.agg #[iv p.kind, iv p.src, iv p.dst, iv p.id, iv p.line, iv p.ptr, iv p.state, .bool p.flag, .slice pa (List.length p.data) pcap]) (loadN (off := 0) (vs := [iv p.kind, iv p.src, iv p.dst, iv p.id, iv p.line, iv p.ptr, iv p.state, .bool p.flag, .slice pa (List.length p.data) pcap]) 9 (fun _ => kf) (holds_own (.there .here)) rfl (by exact ⟨rfl, rfl, rfl, rfl, rfl, rfl, rfl, rfl, rfl, trivial⟩)) ?_
 obtain ⟨y1_1, hy1_1, H⟩ := bindE H
 refine d_call 1 10 [0] [] [] 39 #[.agg #[iv p.kind, iv p.src, iv p.dst, iv p.id, iv p.line, iv p.ptr, iv p.state, .bool p.flag, .slice pa (List.length p.data) pcap]] kf kf kf (fun _ => kf) (RRightF_tr pa pcap p (Reads.conv (fun w hw => hw.less (.drop .here (.drop .here (.drop .here .refl)))) hrpa) y1_1 hy1_1) ?_
 rintro _ _ ⟨rfl, rfl⟩
 refine ⟨stable_nil, ?_⟩
 refine dp 2 11 (.bool !y1_1) ?_
 rcases Bool.eq_false_or_eq_true (!y1_1) with h1 | h1
 ·replace H := bifT H h1
  refine d_pure 3 12 (.bool true) kf kf kf (run_eq (v := .bool (!y1_1)) (fun _ => kf) (congrArg Value.bool h1)) ?_
  refine d_off 4 13 kf kf kf ?_
  refine d_off 5 14 kf kf kf ?_
  refine d_off 6 15 kf kf kf ?_
  refine d_off 7 16 kf kf kf ?_
  refine d_off 8 17 kf kf kf ?_
  refine d_off 9 18 kf kf kf ?_
  refine d_off 10 19 kf kf kf ?_
  refine dp 11 20 (.bool true) ?_
  refine dp 12 21 (.bool true) ?_
  refine d_off 13 22 kf kf kf ?_
  refine d_off 14 23 kf kf kf ?_
  refine d_off 15 24 kf kf kf ?_
  refine d_off 16 25 kf kf kf ?_
  refine d_off 17 26 kf kf kf ?_
  refine d_off 18 27 kf kf kf ?_
  refine d_off 19 28 kf kf kf ?_
  refine d_off 20 29 kf kf kf ?_
  refine dp 21 30 (.bool true) ?_
  refine dp 22 31 (.bool true) ?_
  refine d_off 23 32 kf kf kf ?_
  refine d_off 24 33 kf kf kf ?_
  refine d_off 25 34 kf kf kf ?_
  refine d_off 26 35 kf kf kf ?_
  refine d_off 27 36 kf kf kf ?_
  refine d_off 28 37 kf kf kf ?_
  refine d_off 29 38 kf kf kf ?_
  refine d_off 30 39 kf kf kf ?_
  refine dp 31 40 (.bool true) ?_
  refine draw_end kf ?_
  refine ae [(0, .pointer (some ⟨h, 0, none⟩)), (3, .pointer (some ⟨b0_0, 0, none⟩)), (4, .pointer (some ⟨b0_1, 0, none⟩)), (40, .bool true)] ?_
  refine at_then_normal ?_
  refine at_true (t := true) (x := C22 [1,0,1,0]) (y := C22 [1,0,1,1]) (o := .tmp 40) kf kf kf rfl ?_
  refine aq (x := C22 [1,0,1,0,0]) (y := C22 [1,0,1,0,1]) ?_
  refine ar (id := 2) 4 ?_
  refine sp 41 (.agg #[iv (0), iv (0), iv (0), iv (0), iv (0), iv (0), iv (0), .bool false, .slice none 0 0]) ?_
  refine s_do kf kf (st_store (off := 0) (vs := [iv (0), iv (0), iv (0), iv (0), iv (0), iv (0), iv (0), .bool false, .slice none 0 0]) (c' := #[iv (0), iv (0), iv (0), iv (0), iv (0), iv (0), iv (0), .bool false, .slice none 0 0]) (fun _ => kf) .here kf kf kf) ?_
  rintro _ _ ⟨rfl, rfl⟩
  refine sp 5 (.bool false) ?_
  refine sp 6 (iv (1)) ?_
  refine ops_end ?_
  refine ae [(4, .pointer (some ⟨b0_1, 0, none⟩)), (5, .bool false), (6, iv (1))] ?_
  refine at_then_normal ?_
  refine at_ret kf ?_
  refine at_then_ret ?_
  obtain rfl := someE H
  refine at_backR [.agg #[iv (0), iv (0), iv (0), iv (0), iv (0), iv (0), iv (0), .bool false, .slice none 0 0], .bool false, iv (1)] ((IntsA none 0 ([] : List Int)) :: (HomesA h hc) :: Γ) (rs := [.cell 4 32, .tmp 5, .tmp 6]) kf (.cons (.cell kf (retN (off := 0) (vs := [iv (0), iv (0), iv (0), iv (0), iv (0), iv (0), iv (0), .bool false, .slice none 0 0]) 9 (fun _ => kf) (holds_own .here) rfl (by exact ⟨rfl, rfl, rfl, rfl, rfl, rfl, rfl, rfl, rfl, trivial⟩))) (.cons (.tmp kf) (.cons (.tmp kf) .nil))) (fun w hw => (Sat.less (.take .here (.take (.there (.there .here)) (.drop .here (.drop .here .refl)))) (RowsA.none_mk (k := 1) (a := none) hw))) ?_
  exact ⟨none, 0, rfl, rfl⟩
 ·replace H := bifF H h1
  refine d_pure 3 12 (.bool false) kf kf kf (run_eq (v := .bool (!y1_1)) (fun _ => kf) (congrArg Value.bool h1)) ?_
  refine dp 4 13 (.pointer (some ⟨b0_0, 2, none⟩)) ?_
  refine dl 5 14 (iv p.dst) (load1 (off := 2) (fun _ => kf) (holds_own (.there .here)) kf) ?_
  refine dp 6 15 (.pointer (some ⟨h, 0, none⟩)) ?_
  refine dp 7 16 (.pointer (some ⟨h, 0, none⟩)) ?_
  refine dp 8 17 (.pointer (some ⟨h, 8, none⟩)) ?_
  refine HomesA.tox_draw (.there (.there .here)) ?_
  intro x1_9_h
  refine HomesXA.open_draw .here ?_
  refine dl 9 18 (iv hc.node) (load1 (off := 8) (fun _ => kf) (holds_own .here) kf) ?_
  refine dp 10 19 (.bool (!(decide (p.dst = hc.node)))) ?_
  refine dp 11 20 (.bool (!(decide (p.dst = hc.node)))) ?_
  rcases Bool.eq_false_or_eq_true (!(decide (p.dst = hc.node))) with h2 | h2
  ·replace H := bifT H h2
   refine d_pure 12 21 (.bool true) kf kf kf (run_eq (v := .bool (!(decide (p.dst = hc.node)))) (fun _ => kf) (congrArg Value.bool h2)) ?_
   refine d_off 13 22 kf kf kf ?_
   refine d_off 14 23 kf kf kf ?_
   refine d_off 15 24 kf kf kf ?_
   refine d_off 16 25 kf kf kf ?_
   refine d_off 17 26 kf kf kf ?_
   refine d_off 18 27 kf kf kf ?_
   refine d_off 19 28 kf kf kf ?_
   refine d_off 20 29 kf kf kf ?_
   refine dp 21 30 (.bool true) ?_
   refine dp 22 31 (.bool true) ?_
   refine d_off 23 32 kf kf kf ?_
   refine d_off 24 33 kf kf kf ?_
   refine d_off 25 34 kf kf kf ?_
   refine d_off 26 35 kf kf kf ?_
   refine d_off 27 36 kf kf kf ?_
   refine d_off 28 37 kf kf kf ?_
   refine d_off 29 38 kf kf kf ?_
   refine d_off 30 39 kf kf kf ?_
   refine dp 31 40 (.bool true) ?_
   refine draw_end kf ?_
   refine ae [(0, .pointer (some ⟨h, 0, none⟩)), (3, .pointer (some ⟨b0_0, 0, none⟩)), (4, .pointer (some ⟨b0_1, 0, none⟩)), (40, .bool true)] ?_
   refine at_then_normal ?_
   refine at_true (t := true) (x := C22 [1,0,1,0]) (y := C22 [1,0,1,1]) (o := .tmp 40) kf kf kf rfl ?_
   refine aq (x := C22 [1,0,1,0,0]) (y := C22 [1,0,1,0,1]) ?_
   refine ar (id := 2) 4 ?_
   refine sp 41 (.agg #[iv (0), iv (0), iv (0), iv (0), iv (0), iv (0), iv (0), .bool false, .slice none 0 0]) ?_
   refine s_do kf kf (st_store (off := 0) (vs := [iv (0), iv (0), iv (0), iv (0), iv (0), iv (0), iv (0), .bool false, .slice none 0 0]) (c' := #[iv (0), iv (0), iv (0), iv (0), iv (0), iv (0), iv (0), .bool false, .slice none 0 0]) (fun _ => kf) (.there (.there (.there (.there (.there .here))))) kf kf kf) ?_
   rintro _ _ ⟨rfl, rfl⟩
   refine sp 5 (.bool false) ?_
   refine sp 6 (iv (1)) ?_
   refine ops_end ?_
   refine ae [(4, .pointer (some ⟨b0_1, 0, none⟩)), (5, .bool false), (6, iv (1))] ?_
   refine at_then_normal ?_
   refine at_ret kf ?_
   refine at_then_ret ?_
   refine At.conv (Γ' := (HomesXA h x1_9_h hc) :: (ImmI x1_9_h.a7 hc.c.init) :: (Asn.own b0_1 (.cells #[iv (0), iv (0), iv (0), iv (0), iv (0), iv (0), iv (0), .bool false, .slice none 0 0] 32 (0, 0))) :: (Asn.own b0_0 (.cells #[iv p.kind, iv p.src, iv p.dst, iv p.id, iv p.line, iv p.ptr, iv p.state, .bool p.flag, .slice pa (List.length p.data) pcap] 32 (0, 0))) :: Γ) (fun w hw => HomesXA.close (x := x1_9_h) (t := hc) (Sat.less (.take (.there (.there (.there .here))) (.take .here (.take (.there (.there .here)) (.take (.there (.there .here)) (.take (.there (.there .here)) (.take .here (.take .here (.take .here .refl)))))))) (ImmR.dup (Sat.less (.take (.there (.there .here)) (.take .here (.take .here (.take .here (.take .here (.take .here (.take .here .refl))))))) hw)))) ?_
   refine At.conv (Γ' := (HomesA h hc) :: (ImmI x1_9_h.a7 hc.c.init) :: (Asn.own b0_1 (.cells #[iv (0), iv (0), iv (0), iv (0), iv (0), iv (0), iv (0), .bool false, .slice none 0 0] 32 (0, 0))) :: (Asn.own b0_0 (.cells #[iv p.kind, iv p.src, iv p.dst, iv p.id, iv p.line, iv p.ptr, iv p.state, .bool p.flag, .slice pa (List.length p.data) pcap] 32 (0, 0))) :: Γ) (fun w hw => HomesXA.shut (hw.pull .here)) ?_
   obtain rfl := someE H
   refine at_backR [.agg #[iv (0), iv (0), iv (0), iv (0), iv (0), iv (0), iv (0), .bool false, .slice none 0 0], .bool false, iv (1)] ((IntsA none 0 ([] : List Int)) :: (HomesA h hc) :: Γ) (rs := [.cell 4 32, .tmp 5, .tmp 6]) kf (.cons (.cell kf (retN (off := 0) (vs := [iv (0), iv (0), iv (0), iv (0), iv (0), iv (0), iv (0), .bool false, .slice none 0 0]) 9 (fun _ => kf) (holds_own (.there (.there .here))) rfl (by exact ⟨rfl, rfl, rfl, rfl, rfl, rfl, rfl, rfl, rfl, trivial⟩))) (.cons (.tmp kf) (.cons (.tmp kf) .nil))) (fun w hw => (Sat.less (.take .here (.take .here (.drop .here (.drop .here (.drop .here .refl))))) (RowsA.none_mk (k := 1) (a := none) hw))) ?_
   exact ⟨none, 0, rfl, rfl⟩
  ·replace H := bifF H h2
   refine d_pure 12 21 (.bool false) kf kf kf (run_eq (v := .bool (!(decide (p.dst = hc.node)))) (fun _ => kf) (congrArg Value.bool h2)) ?_
   refine dp 13 22 (.pointer (some ⟨b0_0, 1, none⟩)) ?_
   refine dl 14 23 (iv p.src) (load1 (off := 1) (fun _ => kf) (holds_own (.there (.there (.there (.there (.there (.there .here))))))) kf) ?_
   refine dp 15 24 (.pointer (some ⟨h, 0, none⟩)) ?_
   refine dp 16 25 (.pointer (some ⟨h, 0, none⟩)) ?_
   refine dp 17 26 (.pointer (some ⟨h, 0, none⟩)) ?_
   refine dp 18 27 (.pointer (some ⟨h, 0, none⟩)) ?_
   refine dl 19 28 (iv hc.c.nodes) (load1 (off := 0) (fun _ => kf) (holds_own .here) kf) ?_
   refine dp 20 29 (.bool (decide (hc.c.nodes ≤ p.src))) ?_
   refine dp 21 30 (.bool (decide (hc.c.nodes ≤ p.src))) ?_
   rcases Bool.eq_false_or_eq_true (decide (hc.c.nodes ≤ p.src)) with h3 | h3
   ·replace H := bifT H h3
    refine d_pure 22 31 (.bool true) kf kf kf (run_eq (v := .bool (decide (hc.c.nodes ≤ p.src))) (fun _ => kf) (congrArg Value.bool h3)) ?_
    refine d_off 23 32 kf kf kf ?_
    refine d_off 24 33 kf kf kf ?_
    refine d_off 25 34 kf kf kf ?_
    refine d_off 26 35 kf kf kf ?_
    refine d_off 27 36 kf kf kf ?_
    refine d_off 28 37 kf kf kf ?_
    refine d_off 29 38 kf kf kf ?_
    refine d_off 30 39 kf kf kf ?_
    refine dp 31 40 (.bool true) ?_
    refine draw_end kf ?_
    refine ae [(0, .pointer (some ⟨h, 0, none⟩)), (3, .pointer (some ⟨b0_0, 0, none⟩)), (4, .pointer (some ⟨b0_1, 0, none⟩)), (40, .bool true)] ?_
    refine at_then_normal ?_
    refine at_true (t := true) (x := C22 [1,0,1,0]) (y := C22 [1,0,1,1]) (o := .tmp 40) kf kf kf rfl ?_
    refine aq (x := C22 [1,0,1,0,0]) (y := C22 [1,0,1,0,1]) ?_
    refine ar (id := 2) 4 ?_
    refine sp 41 (.agg #[iv (0), iv (0), iv (0), iv (0), iv (0), iv (0), iv (0), .bool false, .slice none 0 0]) ?_
    refine s_do kf kf (st_store (off := 0) (vs := [iv (0), iv (0), iv (0), iv (0), iv (0), iv (0), iv (0), .bool false, .slice none 0 0]) (c' := #[iv (0), iv (0), iv (0), iv (0), iv (0), iv (0), iv (0), .bool false, .slice none 0 0]) (fun _ => kf) (.there (.there (.there (.there (.there .here))))) kf kf kf) ?_
    rintro _ _ ⟨rfl, rfl⟩
    refine sp 5 (.bool false) ?_
    refine sp 6 (iv (1)) ?_
    refine ops_end ?_
    refine ae [(4, .pointer (some ⟨b0_1, 0, none⟩)), (5, .bool false), (6, iv (1))] ?_
    refine at_then_normal ?_
    refine at_ret kf ?_
    refine at_then_ret ?_
    refine At.conv (Γ' := (HomesXA h x1_9_h hc) :: (ImmI x1_9_h.a7 hc.c.init) :: (Asn.own b0_1 (.cells #[iv (0), iv (0), iv (0), iv (0), iv (0), iv (0), iv (0), .bool false, .slice none 0 0] 32 (0, 0))) :: (Asn.own b0_0 (.cells #[iv p.kind, iv p.src, iv p.dst, iv p.id, iv p.line, iv p.ptr, iv p.state, .bool p.flag, .slice pa (List.length p.data) pcap] 32 (0, 0))) :: Γ) (fun w hw => HomesXA.close (x := x1_9_h) (t := hc) (Sat.less (.take (.there (.there (.there .here))) (.take .here (.take (.there (.there .here)) (.take (.there (.there .here)) (.take (.there (.there .here)) (.take .here (.take .here (.take .here .refl)))))))) (ImmR.dup (Sat.less (.take (.there (.there .here)) (.take .here (.take .here (.take .here (.take .here (.take .here (.take .here .refl))))))) hw)))) ?_
    refine At.conv (Γ' := (HomesA h hc) :: (ImmI x1_9_h.a7 hc.c.init) :: (Asn.own b0_1 (.cells #[iv (0), iv (0), iv (0), iv (0), iv (0), iv (0), iv (0), .bool false, .slice none 0 0] 32 (0, 0))) :: (Asn.own b0_0 (.cells #[iv p.kind, iv p.src, iv p.dst, iv p.id, iv p.line, iv p.ptr, iv p.state, .bool p.flag, .slice pa (List.length p.data) pcap] 32 (0, 0))) :: Γ) (fun w hw => HomesXA.shut (hw.pull .here)) ?_
    obtain rfl := someE H
    refine at_backR [.agg #[iv (0), iv (0), iv (0), iv (0), iv (0), iv (0), iv (0), .bool false, .slice none 0 0], .bool false, iv (1)] ((IntsA none 0 ([] : List Int)) :: (HomesA h hc) :: Γ) (rs := [.cell 4 32, .tmp 5, .tmp 6]) kf (.cons (.cell kf (retN (off := 0) (vs := [iv (0), iv (0), iv (0), iv (0), iv (0), iv (0), iv (0), .bool false, .slice none 0 0]) 9 (fun _ => kf) (holds_own (.there (.there .here))) rfl (by exact ⟨rfl, rfl, rfl, rfl, rfl, rfl, rfl, rfl, rfl, trivial⟩))) (.cons (.tmp kf) (.cons (.tmp kf) .nil))) (fun w hw => (Sat.less (.take .here (.take .here (.drop .here (.drop .here (.drop .here .refl))))) (RowsA.none_mk (k := 1) (a := none) hw))) ?_
    exact ⟨none, 0, rfl, rfl⟩
   ·replace H := bifF H h3
    refine d_pure 22 31 (.bool false) kf kf kf (run_eq (v := .bool (decide (hc.c.nodes ≤ p.src))) (fun _ => kf) (congrArg Value.bool h3)) ?_
    refine dp 23 32 (.pointer (some ⟨b0_0, 0, none⟩)) ?_
    refine dl 24 33 (iv p.kind) (load1 (off := 0) (fun _ => kf) (holds_own (.there (.there (.there (.there (.there (.there .here))))))) kf) ?_
    refine dp 25 34 (.bool (!(decide (p.kind = (1 : Int))))) ?_
    rcases Bool.eq_false_or_eq_true (!(decide (p.kind = (1 : Int)))) with h4 | h4
    ·replace H := bifT H h4
     refine d_pure 26 35 (.bool true) kf kf kf (run_eq (v := .bool (!(decide (p.kind = (1 : Int))))) (fun _ => kf) (congrArg Value.bool h4)) ?_
     refine dp 27 36 (.pointer (some ⟨b0_0, 0, none⟩)) ?_
     refine dl 28 37 (iv p.kind) (load1 (off := 0) (fun _ => kf) (holds_own (.there (.there (.there (.there (.there (.there .here))))))) kf) ?_
     refine dp 29 38 (.bool (!(decide (p.kind = (2 : Int))))) ?_
     refine dp 30 39 (.bool (!(decide (p.kind = (2 : Int))))) ?_
     refine dp 31 40 (.bool (!(decide (p.kind = (2 : Int))))) ?_
     refine draw_end kf ?_
     refine ae [(0, .pointer (some ⟨h, 0, none⟩)), (3, .pointer (some ⟨b0_0, 0, none⟩)), (4, .pointer (some ⟨b0_1, 0, none⟩)), (40, .bool (!(decide (p.kind = (2 : Int)))))] ?_
     refine at_then_normal ?_
     rcases Bool.eq_false_or_eq_true (!(decide (p.kind = (2 : Int)))) with h5 | h5
     ·replace H := bifT H h5
      refine at_true (t := !(decide (p.kind = (2 : Int)))) (x := C22 [1,0,1,0]) (y := C22 [1,0,1,1]) (o := .tmp 40) kf kf kf h5 ?_
      refine aq (x := C22 [1,0,1,0,0]) (y := C22 [1,0,1,0,1]) ?_
      refine ar (id := 2) 4 ?_
      refine sp 41 (.agg #[iv (0), iv (0), iv (0), iv (0), iv (0), iv (0), iv (0), .bool false, .slice none 0 0]) ?_
      refine s_do kf kf (st_store (off := 0) (vs := [iv (0), iv (0), iv (0), iv (0), iv (0), iv (0), iv (0), .bool false, .slice none 0 0]) (c' := #[iv (0), iv (0), iv (0), iv (0), iv (0), iv (0), iv (0), .bool false, .slice none 0 0]) (fun _ => kf) (.there (.there (.there (.there (.there .here))))) kf kf kf) ?_
      rintro _ _ ⟨rfl, rfl⟩
      refine sp 5 (.bool false) ?_
      refine sp 6 (iv (1)) ?_
      refine ops_end ?_
      refine ae [(4, .pointer (some ⟨b0_1, 0, none⟩)), (5, .bool false), (6, iv (1))] ?_
      refine at_then_normal ?_
      refine at_ret kf ?_
      refine at_then_ret ?_
      refine At.conv (Γ' := (HomesXA h x1_9_h hc) :: (ImmI x1_9_h.a7 hc.c.init) :: (Asn.own b0_1 (.cells #[iv (0), iv (0), iv (0), iv (0), iv (0), iv (0), iv (0), .bool false, .slice none 0 0] 32 (0, 0))) :: (Asn.own b0_0 (.cells #[iv p.kind, iv p.src, iv p.dst, iv p.id, iv p.line, iv p.ptr, iv p.state, .bool p.flag, .slice pa (List.length p.data) pcap] 32 (0, 0))) :: Γ) (fun w hw => HomesXA.close (x := x1_9_h) (t := hc) (Sat.less (.take (.there (.there (.there .here))) (.take .here (.take (.there (.there .here)) (.take (.there (.there .here)) (.take (.there (.there .here)) (.take .here (.take .here (.take .here .refl)))))))) (ImmR.dup (Sat.less (.take (.there (.there .here)) (.take .here (.take .here (.take .here (.take .here (.take .here (.take .here .refl))))))) hw)))) ?_
      refine At.conv (Γ' := (HomesA h hc) :: (ImmI x1_9_h.a7 hc.c.init) :: (Asn.own b0_1 (.cells #[iv (0), iv (0), iv (0), iv (0), iv (0), iv (0), iv (0), .bool false, .slice none 0 0] 32 (0, 0))) :: (Asn.own b0_0 (.cells #[iv p.kind, iv p.src, iv p.dst, iv p.id, iv p.line, iv p.ptr, iv p.state, .bool p.flag, .slice pa (List.length p.data) pcap] 32 (0, 0))) :: Γ) (fun w hw => HomesXA.shut (hw.pull .here)) ?_
      obtain rfl := someE H
      refine at_backR [.agg #[iv (0), iv (0), iv (0), iv (0), iv (0), iv (0), iv (0), .bool false, .slice none 0 0], .bool false, iv (1)] ((IntsA none 0 ([] : List Int)) :: (HomesA h hc) :: Γ) (rs := [.cell 4 32, .tmp 5, .tmp 6]) kf (.cons (.cell kf (retN (off := 0) (vs := [iv (0), iv (0), iv (0), iv (0), iv (0), iv (0), iv (0), .bool false, .slice none 0 0]) 9 (fun _ => kf) (holds_own (.there (.there .here))) rfl (by exact ⟨rfl, rfl, rfl, rfl, rfl, rfl, rfl, rfl, rfl, trivial⟩))) (.cons (.tmp kf) (.cons (.tmp kf) .nil))) (fun w hw => (Sat.less (.take .here (.take .here (.drop .here (.drop .here (.drop .here .refl))))) (RowsA.none_mk (k := 1) (a := none) hw))) ?_
      exact ⟨none, 0, rfl, rfl⟩
     ·replace H := bifF H h5
      refine at_false (t := !(decide (p.kind = (2 : Int)))) (x := C22 [1,0,1,0]) (y := C22 [1,0,1,1]) (o := .tmp 40) kf kf kf h5 ?_
      refine at_skip kf ?_
      refine at_then_normal ?_
      refine aq (x := C22 [1,1,0]) (y := C22 [1,1,1]) ?_
      refine aq (x := C22 [1,1,0,0]) (y := C22 [1,1,0,1]) ?_
      refine ar (id := 3) 5 ?_
      refine sp 42 (.pointer (some ⟨h, 0, none⟩)) ?_
      refine sp 43 (.pointer (some ⟨b0_0, 4, none⟩)) ?_
      refine sl 44 (iv p.line) (load1 (off := 4) (fun _ => kf) (holds_own (.there (.there (.there (.there (.there (.there .here))))))) kf) ?_
      refine At.conv (Γ' := (HomesXA h x1_9_h hc) :: (ImmI x1_9_h.a7 hc.c.init) :: (Asn.own b0_1 (.cells #[iv (0), iv (0), iv (0), iv (0), iv (0), iv (0), iv (0), .bool false, .slice none 0 0] 32 (0, 0))) :: (Asn.own b0_0 (.cells #[iv p.kind, iv p.src, iv p.dst, iv p.id, iv p.line, iv p.ptr, iv p.state, .bool p.flag, .slice pa (List.length p.data) pcap] 32 (0, 0))) :: Γ) (fun w hw => HomesXA.close (x := x1_9_h) (t := hc) (Sat.less (.take (.there (.there .here)) (.take .here (.take (.there .here) (.take (.there .here) (.take (.there .here) (.take .here (.take .here (.take .here .refl)))))))) (ImmR.dup (Sat.less (.take (.there .here) (.take .here (.take .here (.take .here (.take .here (.take .here (.take .here .refl))))))) hw)))) ?_
      obtain ⟨y3_3, hy3_3, H⟩ := bindE H
      refine s_call 45 40 #[.pointer (some ⟨h, 0, none⟩), iv p.line] kf kf (fun _ => kf) (SHereF_tr h x1_9_h hc p.line y3_3 hy3_3) ?_
      rintro _ _ ⟨rfl, rfl⟩
      refine sp 46 (.bool !y3_3) ?_
      refine ops_end ?_
      refine ae [(0, .pointer (some ⟨h, 0, none⟩)), (3, .pointer (some ⟨b0_0, 0, none⟩)), (4, .pointer (some ⟨b0_1, 0, none⟩)), (46, .bool !y3_3)] ?_
      refine at_then_normal ?_
      rcases Bool.eq_false_or_eq_true (!y3_3) with h6 | h6
      ·replace H := bifT H h6
       refine at_true (t := !y3_3) (x := C22 [1,1,0,1,0]) (y := C22 [1,1,0,1,1]) (o := .tmp 46) kf kf kf h6 ?_
       refine aq (x := C22 [1,1,0,1,0,0]) (y := C22 [1,1,0,1,0,1]) ?_
       refine ar (id := 4) 4 ?_
       refine sp 47 (.agg #[iv (0), iv (0), iv (0), iv (0), iv (0), iv (0), iv (0), .bool false, .slice none 0 0]) ?_
       refine s_do kf kf (st_store (off := 0) (vs := [iv (0), iv (0), iv (0), iv (0), iv (0), iv (0), iv (0), .bool false, .slice none 0 0]) (c' := #[iv (0), iv (0), iv (0), iv (0), iv (0), iv (0), iv (0), .bool false, .slice none 0 0]) (fun _ => kf) (.there (.there .here)) kf kf kf) ?_
       rintro _ _ ⟨rfl, rfl⟩
       refine sp 5 (.bool false) ?_
       refine sp 6 (iv (3)) ?_
       refine ops_end ?_
       refine ae [(4, .pointer (some ⟨b0_1, 0, none⟩)), (5, .bool false), (6, iv (3))] ?_
       refine at_then_normal ?_
       refine at_ret kf ?_
       refine at_then_ret ?_
       refine At.conv (Γ' := (HomesA h hc) :: (Asn.own b0_1 (.cells #[iv (0), iv (0), iv (0), iv (0), iv (0), iv (0), iv (0), .bool false, .slice none 0 0] 32 (0, 0))) :: (ImmI x1_9_h.a7 hc.c.init) :: (Asn.own b0_0 (.cells #[iv p.kind, iv p.src, iv p.dst, iv p.id, iv p.line, iv p.ptr, iv p.state, .bool p.flag, .slice pa (List.length p.data) pcap] 32 (0, 0))) :: Γ) (fun w hw => HomesXA.shut (hw.pull (.there .here))) ?_
       obtain rfl := someE H
       refine at_backR [.agg #[iv (0), iv (0), iv (0), iv (0), iv (0), iv (0), iv (0), .bool false, .slice none 0 0], .bool false, iv (3)] ((IntsA none 0 ([] : List Int)) :: (HomesA h hc) :: Γ) (rs := [.cell 4 32, .tmp 5, .tmp 6]) kf (.cons (.cell kf (retN (off := 0) (vs := [iv (0), iv (0), iv (0), iv (0), iv (0), iv (0), iv (0), .bool false, .slice none 0 0]) 9 (fun _ => kf) (holds_own (.there .here)) rfl (by exact ⟨rfl, rfl, rfl, rfl, rfl, rfl, rfl, rfl, rfl, trivial⟩))) (.cons (.tmp kf) (.cons (.tmp kf) .nil))) (fun w hw => (Sat.less (.take .here (.take .here (.drop .here (.drop .here (.drop .here .refl))))) (RowsA.none_mk (k := 1) (a := none) hw))) ?_
       exact ⟨none, 0, rfl, rfl⟩
      ·replace H := bifF H h6
       refine at_false (t := !y3_3) (x := C22 [1,1,0,1,0]) (y := C22 [1,1,0,1,1]) (o := .tmp 46) kf kf kf h6 ?_
       refine at_skip kf ?_
       refine at_then_normal ?_
       refine aq (x := C22 [1,1,1,0]) (y := C22 [1,1,1,1]) ?_
       refine aq (x := C22 [1,1,1,0,0]) (y := C22 [1,1,1,0,1]) ?_
       refine ar (id := 5) 3 ?_
       refine sp 48 (.pointer (some ⟨b0_0, 0, none⟩)) ?_
       refine sl 49 (iv p.kind) (load1 (off := 0) (fun _ => kf) (holds_own (.there (.there (.there .here)))) kf) ?_
       refine sp 50 (.bool (decide (p.kind = (1 : Int)))) ?_
       refine ops_end ?_
       refine ae [(0, .pointer (some ⟨h, 0, none⟩)), (3, .pointer (some ⟨b0_0, 0, none⟩)), (4, .pointer (some ⟨b0_1, 0, none⟩)), (50, .bool (decide (p.kind = (1 : Int))))] ?_
       refine at_then_normal ?_
       rcases Bool.eq_false_or_eq_true (decide (p.kind = (1 : Int))) with h7 | h7
       ·replace H := bifT H h7
        refine at_true (t := decide (p.kind = (1 : Int))) (x := C22 [1,1,1,0,1,0]) (y := C22 [1,1,1,0,1,1]) (o := .tmp 50) kf kf kf h7 ?_
        refine aq (x := C22 [1,1,1,0,1,0,0]) (y := C22 [1,1,1,0,1,0,1]) ?_
        refine aq (x := C22 [1,1,1,0,1,0,0,0]) (y := C22 [1,1,1,0,1,0,0,1]) ?_
        refine at_region_draw (id := 6) kf kf ?_
        refine dp 0 51 (.pointer (some ⟨h, 0, none⟩)) ?_
        refine dp 1 52 (.pointer (some ⟨h, 0, none⟩)) ?_
        refine dp 2 53 (.pointer (some ⟨h, 10, none⟩)) ?_
        refine dp 3 54 (.pointer (some ⟨b0_0, 4, none⟩)) ?_
        refine dl 4 55 (iv p.line) (load1 (off := 4) (fun _ => kf) (holds_own (.there (.there (.there .here)))) kf) ?_
        refine dp 5 56 (.pointer (some ⟨b0_0, 1, none⟩)) ?_
        refine dl 6 57 (iv p.src) (load1 (off := 1) (fun _ => kf) (holds_own (.there (.there (.there .here)))) kf) ?_
        refine dp 7 58 (.pointer (some ⟨b0_0, 3, none⟩)) ?_
        refine dl 8 59 (iv p.id) (load1 (off := 3) (fun _ => kf) (holds_own (.there (.there (.there .here)))) kf) ?_
        refine Draw.convS (Γ' := (HomesA h hc) :: (ImmI x1_9_h.a7 hc.c.init) :: (Asn.own b0_1 (.cells #[iv (0), iv (0), iv (0), iv (0), iv (0), iv (0), iv (0), .bool false, .slice none 0 0] 32 (0, 0))) :: (Asn.own b0_0 (.cells #[iv p.kind, iv p.src, iv p.dst, iv p.id, iv p.line, iv p.ptr, iv p.state, .bool p.flag, .slice pa (List.length p.data) pcap] 32 (0, 0))) :: Γ) (fun w hw => HomesXA.shut (hw.pull .here)) (stable_cons 8 59 (iv p.id) kf kf kf (load1 (off := 3) (fun _ => kf) (holds_own (.there (.there (.there .here)))) kf) (stable_cons 6 57 (iv p.src) kf kf kf (load1 (off := 1) (fun _ => kf) (holds_own (.there (.there (.there .here)))) kf) (stable_cons 4 55 (iv p.line) kf kf kf (load1 (off := 4) (fun _ => kf) (holds_own (.there (.there (.there .here)))) kf) stable_nil))) ?_
        obtain ⟨y6_9, hy6_9, H⟩ := bindE H
        refine d_call 9 60 [2, 4, 6, 8, 1, 3, 5, 7, 0] [] [] 41 #[.pointer (some ⟨h, 10, none⟩), iv p.line, iv p.src, iv p.id] kf kf kf (fun _ => kf) (QAskF_tr h hc p.line p.src p.id y6_9 hy6_9) ?_
        rintro _ _ ⟨rfl, rfl⟩
        refine ⟨stable_nil, ?_⟩
        refine draw_end kf ?_
        refine ae [(0, .pointer (some ⟨h, 0, none⟩)), (3, .pointer (some ⟨b0_0, 0, none⟩)), (4, .pointer (some ⟨b0_1, 0, none⟩)), (60, .bool y6_9.1)] ?_
        refine at_then_normal ?_
        rcases Bool.eq_false_or_eq_true (y6_9.1) with h8 | h8
        ·replace H := bifT H h8
         refine at_true (t := y6_9.1) (x := C22 [1,1,1,0,1,0,0,1,0]) (y := C22 [1,1,1,0,1,0,0,1,1]) (o := .tmp 60) kf kf kf h8 ?_
         refine aq (x := C22 [1,1,1,0,1,0,0,1,0,0]) (y := C22 [1,1,1,0,1,0,0,1,0,1]) ?_
         refine ar (id := 7) 11 ?_
         refine sp 61 (.pointer (some ⟨h, 0, none⟩)) ?_
         refine sp 62 (.pointer (some ⟨b0_0, 4, none⟩)) ?_
         refine sl 63 (iv p.line) (load1 (off := 4) (fun _ => kf) (holds_own (.there (.there (.there .here)))) kf) ?_
         refine sp 64 (.pointer (some ⟨b0_0, 1, none⟩)) ?_
         refine sl 65 (iv p.src) (load1 (off := 1) (fun _ => kf) (holds_own (.there (.there (.there .here)))) kf) ?_
         refine sp 66 (.pointer (some ⟨b0_0, 3, none⟩)) ?_
         refine sl 67 (iv p.id) (load1 (off := 3) (fun _ => kf) (holds_own (.there (.there (.there .here)))) kf) ?_
         refine HomesA.tox .here ?_
         intro x7_7_h
         obtain ⟨y7_7, hy7_7, H⟩ := bindE H
         refine s_call 68 37 #[.pointer (some ⟨h, 0, none⟩), iv p.line, iv p.src, iv p.id] kf kf (fun _ => kf) (SGrantedF_tr h x7_7_h y6_9.2 p.line p.src p.id y7_7 hy7_7) ?_
         rintro _ _ ⟨a7_7_00, c7_7_00, rfl, rfl⟩
         refine s_do kf kf (st_store (off := 0) (vs := [iv y7_7.kind, iv y7_7.src, iv y7_7.dst, iv y7_7.id, iv y7_7.line, iv y7_7.ptr, iv y7_7.state, .bool y7_7.flag, .slice a7_7_00 (List.length y7_7.data) c7_7_00]) (c' := #[iv y7_7.kind, iv y7_7.src, iv y7_7.dst, iv y7_7.id, iv y7_7.line, iv y7_7.ptr, iv y7_7.state, .bool y7_7.flag, .slice a7_7_00 (List.length y7_7.data) c7_7_00]) (fun _ => kf) (.there (.there (.there .here))) kf kf kf) ?_
         rintro _ _ ⟨rfl, rfl⟩
         refine sp 5 (.bool true) ?_
         refine sp 6 (iv (0)) ?_
         refine ops_end ?_
         refine ae [(4, .pointer (some ⟨b0_1, 0, none⟩)), (5, .bool true), (6, iv (0))] ?_
         refine at_then_normal ?_
         refine at_ret kf ?_
         refine at_then_ret ?_
         refine at_then_ret ?_
         refine At.conv (Γ' := (HomesA h y6_9.2) :: (Asn.own b0_1 (.cells #[iv y7_7.kind, iv y7_7.src, iv y7_7.dst, iv y7_7.id, iv y7_7.line, iv y7_7.ptr, iv y7_7.state, .bool y7_7.flag, .slice a7_7_00 (List.length y7_7.data) c7_7_00] 32 (0, 0))) :: (IntsA a7_7_00 c7_7_00 y7_7.data) :: (ImmI x1_9_h.a7 hc.c.init) :: (Asn.own b0_0 (.cells #[iv p.kind, iv p.src, iv p.dst, iv p.id, iv p.line, iv p.ptr, iv p.state, .bool p.flag, .slice pa (List.length p.data) pcap] 32 (0, 0))) :: Γ) (fun w hw => HomesXA.shut (hw.pull (.there (.there .here)))) ?_
         obtain rfl := someE H
         refine at_backR [.agg #[iv y7_7.kind, iv y7_7.src, iv y7_7.dst, iv y7_7.id, iv y7_7.line, iv y7_7.ptr, iv y7_7.state, .bool y7_7.flag, .slice a7_7_00 (List.length y7_7.data) c7_7_00], .bool true, iv (0)] ((IntsA a7_7_00 c7_7_00 y7_7.data) :: (HomesA h y6_9.2) :: Γ) (rs := [.cell 4 32, .tmp 5, .tmp 6]) kf (.cons (.cell kf (retN (off := 0) (vs := [iv y7_7.kind, iv y7_7.src, iv y7_7.dst, iv y7_7.id, iv y7_7.line, iv y7_7.ptr, iv y7_7.state, .bool y7_7.flag, .slice a7_7_00 (List.length y7_7.data) c7_7_00]) 9 (fun _ => kf) (holds_own (.there .here)) rfl (by exact ⟨rfl, rfl, rfl, rfl, rfl, rfl, rfl, rfl, rfl, trivial⟩))) (.cons (.tmp kf) (.cons (.tmp kf) .nil))) (fun w hw => (Sat.less (.take (.there (.there .here)) (.take .here (.drop .here (.drop .here (.drop .here .refl))))) hw)) ?_
         exact ⟨a7_7_00, c7_7_00, rfl, rfl⟩
        ·replace H := bifF H h8
         refine at_false (t := y6_9.1) (x := C22 [1,1,1,0,1,0,0,1,0]) (y := C22 [1,1,1,0,1,0,0,1,1]) (o := .tmp 60) kf kf kf h8 ?_
         refine at_skip kf ?_
         refine at_then_normal ?_
         refine aq (x := C22 [1,1,1,0,1,0,1,0]) (y := C22 [1,1,1,0,1,0,1,1]) ?_
         refine ar (id := 8) 4 ?_
         refine sp 69 (.agg #[iv (0), iv (0), iv (0), iv (0), iv (0), iv (0), iv (0), .bool false, .slice none 0 0]) ?_
         refine s_do kf kf (st_store (off := 0) (vs := [iv (0), iv (0), iv (0), iv (0), iv (0), iv (0), iv (0), .bool false, .slice none 0 0]) (c' := #[iv (0), iv (0), iv (0), iv (0), iv (0), iv (0), iv (0), .bool false, .slice none 0 0]) (fun _ => kf) (.there (.there .here)) kf kf kf) ?_
         rintro _ _ ⟨rfl, rfl⟩
         refine sp 5 (.bool false) ?_
         refine sp 6 (iv (0)) ?_
         refine ops_end ?_
         refine ae [(4, .pointer (some ⟨b0_1, 0, none⟩)), (5, .bool false), (6, iv (0))] ?_
         refine at_then_normal ?_
         refine at_ret kf ?_
         refine at_then_ret ?_
         obtain rfl := someE H
         refine at_backR [.agg #[iv (0), iv (0), iv (0), iv (0), iv (0), iv (0), iv (0), .bool false, .slice none 0 0], .bool false, iv (0)] ((IntsA none 0 ([] : List Int)) :: (HomesA h y6_9.2) :: Γ) (rs := [.cell 4 32, .tmp 5, .tmp 6]) kf (.cons (.cell kf (retN (off := 0) (vs := [iv (0), iv (0), iv (0), iv (0), iv (0), iv (0), iv (0), .bool false, .slice none 0 0]) 9 (fun _ => kf) (holds_own .here) rfl (by exact ⟨rfl, rfl, rfl, rfl, rfl, rfl, rfl, rfl, rfl, trivial⟩))) (.cons (.tmp kf) (.cons (.tmp kf) .nil))) (fun w hw => (Sat.less (.take .here (.take (.there .here) (.drop .here (.drop .here (.drop .here .refl))))) (RowsA.none_mk (k := 1) (a := none) hw))) ?_
         exact ⟨none, 0, rfl, rfl⟩
       ·replace H := bifF H h7
        refine at_false (t := decide (p.kind = (1 : Int))) (x := C22 [1,1,1,0,1,0]) (y := C22 [1,1,1,0,1,1]) (o := .tmp 50) kf kf kf h7 ?_
        refine at_skip kf ?_
        refine at_then_normal ?_
        refine aq (x := C22 [1,1,1,1,0]) (y := C22 [1,1,1,1,1]) ?_
        refine aq (x := C22 [1,1,1,1,0,0]) (y := C22 [1,1,1,1,0,1]) ?_
        refine at_region_draw (id := 9) kf kf ?_
        refine dp 0 70 (.pointer (some ⟨h, 0, none⟩)) ?_
        refine dp 1 71 (.pointer (some ⟨h, 0, none⟩)) ?_
        refine dp 2 72 (.pointer (some ⟨h, 10, none⟩)) ?_
        refine dp 3 73 (.pointer (some ⟨b0_0, 4, none⟩)) ?_
        refine dl 4 74 (iv p.line) (load1 (off := 4) (fun _ => kf) (holds_own (.there (.there (.there .here)))) kf) ?_
        refine dp 6 76 (.pointer (some ⟨b0_0, 1, none⟩)) ?_
        refine dl 7 77 (iv p.src) (load1 (off := 1) (fun _ => kf) (holds_own (.there (.there (.there .here)))) kf) ?_
        obtain ⟨y9_5, hy9_5, H⟩ := bindE H
        refine d_call 5 75 [2, 4, 1, 3, 0] [6] [7] 20 #[.pointer (some ⟨h, 10, none⟩), iv p.line] kf kf kf (fun _ => kf) (QOwnerF_tr h x1_9_h hc p.line y9_5 hy9_5) ?_
        rintro _ _ ⟨rfl, rfl⟩
        refine ⟨(stable_cons 7 77 (iv p.src) kf kf kf (load1 (off := 1) (fun _ => kf) (holds_own (.there (.there (.there .here)))) kf) stable_nil), ?_⟩
        refine dp 8 78 (.bool (!(decide (y9_5 = p.src)))) ?_
        refine draw_end kf ?_
        refine ae [(0, .pointer (some ⟨h, 0, none⟩)), (3, .pointer (some ⟨b0_0, 0, none⟩)), (4, .pointer (some ⟨b0_1, 0, none⟩)), (78, .bool (!(decide (y9_5 = p.src))))] ?_
        refine at_then_normal ?_
        rcases Bool.eq_false_or_eq_true (!(decide (y9_5 = p.src))) with h9 | h9
        ·replace H := bifT H h9
         refine at_true (t := !(decide (y9_5 = p.src))) (x := C22 [1,1,1,1,0,1,0]) (y := C22 [1,1,1,1,0,1,1]) (o := .tmp 78) kf kf kf h9 ?_
         refine aq (x := C22 [1,1,1,1,0,1,0,0]) (y := C22 [1,1,1,1,0,1,0,1]) ?_
         refine ar (id := 10) 4 ?_
         refine sp 79 (.agg #[iv (0), iv (0), iv (0), iv (0), iv (0), iv (0), iv (0), .bool false, .slice none 0 0]) ?_
         refine s_do kf kf (st_store (off := 0) (vs := [iv (0), iv (0), iv (0), iv (0), iv (0), iv (0), iv (0), .bool false, .slice none 0 0]) (c' := #[iv (0), iv (0), iv (0), iv (0), iv (0), iv (0), iv (0), .bool false, .slice none 0 0]) (fun _ => kf) (.there (.there .here)) kf kf kf) ?_
         rintro _ _ ⟨rfl, rfl⟩
         refine sp 5 (.bool false) ?_
         refine sp 6 (iv (6)) ?_
         refine ops_end ?_
         refine ae [(4, .pointer (some ⟨b0_1, 0, none⟩)), (5, .bool false), (6, iv (6))] ?_
         refine at_then_normal ?_
         refine at_ret kf ?_
         refine at_then_ret ?_
         refine At.conv (Γ' := (HomesA h hc) :: (Asn.own b0_1 (.cells #[iv (0), iv (0), iv (0), iv (0), iv (0), iv (0), iv (0), .bool false, .slice none 0 0] 32 (0, 0))) :: (ImmI x1_9_h.a7 hc.c.init) :: (Asn.own b0_0 (.cells #[iv p.kind, iv p.src, iv p.dst, iv p.id, iv p.line, iv p.ptr, iv p.state, .bool p.flag, .slice pa (List.length p.data) pcap] 32 (0, 0))) :: Γ) (fun w hw => HomesXA.shut (hw.pull (.there .here))) ?_
         obtain rfl := someE H
         refine at_backR [.agg #[iv (0), iv (0), iv (0), iv (0), iv (0), iv (0), iv (0), .bool false, .slice none 0 0], .bool false, iv (6)] ((IntsA none 0 ([] : List Int)) :: (HomesA h hc) :: Γ) (rs := [.cell 4 32, .tmp 5, .tmp 6]) kf (.cons (.cell kf (retN (off := 0) (vs := [iv (0), iv (0), iv (0), iv (0), iv (0), iv (0), iv (0), .bool false, .slice none 0 0]) 9 (fun _ => kf) (holds_own (.there .here)) rfl (by exact ⟨rfl, rfl, rfl, rfl, rfl, rfl, rfl, rfl, rfl, trivial⟩))) (.cons (.tmp kf) (.cons (.tmp kf) .nil))) (fun w hw => (Sat.less (.take .here (.take .here (.drop .here (.drop .here (.drop .here .refl))))) (RowsA.none_mk (k := 1) (a := none) hw))) ?_
         exact ⟨none, 0, rfl, rfl⟩
        ·replace H := bifF H h9
         refine at_false (t := !(decide (y9_5 = p.src))) (x := C22 [1,1,1,1,0,1,0]) (y := C22 [1,1,1,1,0,1,1]) (o := .tmp 78) kf kf kf h9 ?_
         refine at_skip kf ?_
         refine at_then_normal ?_
         refine aq (x := C22 [1,1,1,1,1,0]) (y := C22 [1,1,1,1,1,1]) ?_
         refine ar (id := 11) 1 ?_
         refine sp 7 (.slice none 0 0) ?_
         refine ops_end ?_
         refine ae [(0, .pointer (some ⟨h, 0, none⟩)), (3, .pointer (some ⟨b0_0, 0, none⟩)), (4, .pointer (some ⟨b0_1, 0, none⟩)), (7, .slice none 0 0)] ?_
         refine at_then_normal ?_
         refine aq (x := C22 [1,1,1,1,1,1,0]) (y := C22 [1,1,1,1,1,1,1]) ?_
         refine aq (x := C22 [1,1,1,1,1,1,0,0]) (y := C22 [1,1,1,1,1,1,0,1]) ?_
         refine ar (id := 12) 2 ?_
         refine sp 80 (.pointer (some ⟨b0_0, 7, none⟩)) ?_
         refine sl 81 (.bool p.flag) (load1 (off := 7) (fun _ => kf) (holds_own (.there (.there (.there .here)))) kf) ?_
         refine ops_end ?_
         refine ae [(0, .pointer (some ⟨h, 0, none⟩)), (3, .pointer (some ⟨b0_0, 0, none⟩)), (4, .pointer (some ⟨b0_1, 0, none⟩)), (7, .slice none 0 0), (81, .bool p.flag)] ?_
         refine at_then_normal ?_
         rcases Bool.eq_false_or_eq_true (p.flag) with h10 | h10
         ·replace H := bifT H h10
          refine at_true (t := p.flag) (x := C22 [1,1,1,1,1,1,0,1,0]) (y := C22 [1,1,1,1,1,1,0,1,1]) (o := .tmp 81) kf kf kf h10 ?_
          refine ar (id := 13) 3 ?_
          refine sp 82 (.pointer (some ⟨b0_0, 8, none⟩)) ?_
          refine sl 83 (.slice pa (List.length p.data) pcap) (load1 (off := 8) (fun _ => kf) (holds_own (.there (.there (.there .here)))) kf) ?_
          refine sp 7 (.slice pa (List.length p.data) pcap) ?_
          refine ops_end ?_
          refine ae [(0, .pointer (some ⟨h, 0, none⟩)), (3, .pointer (some ⟨b0_0, 0, none⟩)), (4, .pointer (some ⟨b0_1, 0, none⟩)), (7, .slice pa (List.length p.data) pcap)] ?_
          refine at_then_normal ?_
          refine aq (x := C22 [1,1,1,1,1,1,1,0]) (y := C22 [1,1,1,1,1,1,1,1]) ?_
          refine aq (x := C22 [1,1,1,1,1,1,1,0,0]) (y := C22 [1,1,1,1,1,1,1,0,1]) ?_
          refine ar (id := 14) 10 ?_
          refine sp 84 (.pointer (some ⟨h, 0, none⟩)) ?_
          refine sp 85 (.pointer (some ⟨b0_0, 4, none⟩)) ?_
          refine sl 86 (iv p.line) (load1 (off := 4) (fun _ => kf) (holds_own (.there (.there (.there .here)))) kf) ?_
          refine sp 87 (.pointer (some ⟨b0_0, 6, none⟩)) ?_
          refine sl 88 (iv p.state) (load1 (off := 6) (fun _ => kf) (holds_own (.there (.there (.there .here)))) kf) ?_
          refine sp 89 (.pointer (some ⟨b0_0, 5, none⟩)) ?_
          refine sl 90 (iv p.ptr) (load1 (off := 5) (fun _ => kf) (holds_own (.there (.there (.there .here)))) kf) ?_
          refine sp 91 (.slice pa (List.length p.data) pcap) ?_
          refine At.conv (Γ' := (HomesA h hc) :: (ImmI x1_9_h.a7 hc.c.init) :: (Asn.own b0_1 (.cells #[iv (0), iv (0), iv (0), iv (0), iv (0), iv (0), iv (0), .bool false, .slice none 0 0] 32 (0, 0))) :: (Asn.own b0_0 (.cells #[iv p.kind, iv p.src, iv p.dst, iv p.id, iv p.line, iv p.ptr, iv p.state, .bool p.flag, .slice pa (List.length p.data) pcap] 32 (0, 0))) :: Γ) (fun w hw => HomesXA.shut (hw.pull .here)) ?_
          obtain ⟨y14_8, hy14_8, H⟩ := bindE H
          refine s_call 92 42 #[.pointer (some ⟨h, 0, none⟩), iv p.line, iv p.state, iv p.ptr, .slice pa (List.length p.data) pcap] kf kf (fun _ => kf) (SSetF_tr h hc p.line p.state p.ptr pa pcap p.data (Reads.conv (fun w hw => hw.less (.drop .here (.drop .here (.drop .here .refl)))) hrpa) y14_8 hy14_8) ?_
          rintro _ _ ⟨rfl, rfl⟩
          refine sp 8 (iv y14_8.1) ?_
          refine ops_end ?_
          refine ae [(0, .pointer (some ⟨h, 0, none⟩)), (3, .pointer (some ⟨b0_0, 0, none⟩)), (4, .pointer (some ⟨b0_1, 0, none⟩)), (8, iv y14_8.1)] ?_
          refine at_then_normal ?_
          refine aq (x := C22 [1,1,1,1,1,1,1,0,1,0]) (y := C22 [1,1,1,1,1,1,1,0,1,1]) ?_
          refine ar (id := 15) 2 ?_
          refine sp 93 (iv y14_8.1) ?_
          refine sp 94 (.bool (!(decide (y14_8.1 = (0 : Int))))) ?_
          refine ops_end ?_
          refine ae [(0, .pointer (some ⟨h, 0, none⟩)), (3, .pointer (some ⟨b0_0, 0, none⟩)), (4, .pointer (some ⟨b0_1, 0, none⟩)), (8, iv y14_8.1), (94, .bool (!(decide (y14_8.1 = (0 : Int)))))] ?_
          refine at_then_normal ?_
          rcases Bool.eq_false_or_eq_true (!(decide (y14_8.1 = (0 : Int)))) with h11 | h11
          ·replace H := bifT H h11
           refine at_true (t := !(decide (y14_8.1 = (0 : Int)))) (x := C22 [1,1,1,1,1,1,1,0,1,1,0]) (y := C22 [1,1,1,1,1,1,1,0,1,1,1]) (o := .tmp 94) kf kf kf h11 ?_
           refine aq (x := C22 [1,1,1,1,1,1,1,0,1,1,0,0]) (y := C22 [1,1,1,1,1,1,1,0,1,1,0,1]) ?_
           refine ar (id := 16) 5 ?_
           refine sp 95 (.agg #[iv (0), iv (0), iv (0), iv (0), iv (0), iv (0), iv (0), .bool false, .slice none 0 0]) ?_
           refine sp 96 (iv y14_8.1) ?_
           refine s_do kf kf (st_store (off := 0) (vs := [iv (0), iv (0), iv (0), iv (0), iv (0), iv (0), iv (0), .bool false, .slice none 0 0]) (c' := #[iv (0), iv (0), iv (0), iv (0), iv (0), iv (0), iv (0), .bool false, .slice none 0 0]) (fun _ => kf) (.there (.there .here)) kf kf kf) ?_
           rintro _ _ ⟨rfl, rfl⟩
           refine sp 5 (.bool false) ?_
           refine sp 6 (iv y14_8.1) ?_
           refine ops_end ?_
           refine ae [(4, .pointer (some ⟨b0_1, 0, none⟩)), (5, .bool false), (6, iv y14_8.1)] ?_
           refine at_then_normal ?_
           refine at_ret kf ?_
           refine at_then_ret ?_
           obtain rfl := someE H
           refine at_backR [.agg #[iv (0), iv (0), iv (0), iv (0), iv (0), iv (0), iv (0), .bool false, .slice none 0 0], .bool false, iv y14_8.1] ((IntsA none 0 ([] : List Int)) :: (HomesA h y14_8.2) :: Γ) (rs := [.cell 4 32, .tmp 5, .tmp 6]) kf (.cons (.cell kf (retN (off := 0) (vs := [iv (0), iv (0), iv (0), iv (0), iv (0), iv (0), iv (0), .bool false, .slice none 0 0]) 9 (fun _ => kf) (holds_own .here) rfl (by exact ⟨rfl, rfl, rfl, rfl, rfl, rfl, rfl, rfl, rfl, trivial⟩))) (.cons (.tmp kf) (.cons (.tmp kf) .nil))) (fun w hw => (Sat.less (.take .here (.take (.there .here) (.drop .here (.drop .here (.drop .here .refl))))) (RowsA.none_mk (k := 1) (a := none) hw))) ?_
           exact ⟨none, 0, rfl, rfl⟩
          ·replace H := bifF H h11
           refine at_false (t := !(decide (y14_8.1 = (0 : Int)))) (x := C22 [1,1,1,1,1,1,1,0,1,1,0]) (y := C22 [1,1,1,1,1,1,1,0,1,1,1]) (o := .tmp 94) kf kf kf h11 ?_
           refine at_skip kf ?_
           refine at_then_normal ?_
           refine aq (x := C22 [1,1,1,1,1,1,1,1,0]) (y := C22 [1,1,1,1,1,1,1,1,1]) ?_
           refine at_region_draw (id := 17) kf kf ?_
           refine dp 0 97 (.pointer (some ⟨h, 0, none⟩)) ?_
           refine dp 1 98 (.pointer (some ⟨h, 0, none⟩)) ?_
           refine dp 2 99 (.pointer (some ⟨h, 10, none⟩)) ?_
           refine dp 3 100 (.pointer (some ⟨b0_0, 4, none⟩)) ?_
           refine dl 4 101 (iv p.line) (load1 (off := 4) (fun _ => kf) (holds_own (.there (.there (.there .here)))) kf) ?_
           refine dp 5 102 (.pointer (some ⟨b0_0, 1, none⟩)) ?_
           refine dl 6 103 (iv p.src) (load1 (off := 1) (fun _ => kf) (holds_own (.there (.there (.there .here)))) kf) ?_
           obtain ⟨y17_7, hy17_7, H⟩ := bindE H
           refine d_call 7 104 [2, 4, 6, 1, 3, 5, 0] [] [] 43 #[.pointer (some ⟨h, 10, none⟩), iv p.line, iv p.src] kf kf kf (fun _ => kf) (QReleaseF_tr h y14_8.2 p.line p.src y17_7 hy17_7) ?_
           rintro _ _ ⟨rfl, rfl⟩
           refine ⟨stable_nil, ?_⟩
           refine draw_end kf ?_
           refine ae [(0, .pointer (some ⟨h, 0, none⟩)), (3, .pointer (some ⟨b0_0, 0, none⟩)), (4, .pointer (some ⟨b0_1, 0, none⟩))] ?_
           refine at_then_normal ?_
           refine aq (x := C22 [1,1,1,1,1,1,1,1,1,0]) (y := C22 [1,1,1,1,1,1,1,1,1,1]) ?_
           refine at_region_draw (id := 18) kf kf ?_
           refine dp 0 105 (.pointer (some ⟨h, 0, none⟩)) ?_
           refine dp 1 106 (.pointer (some ⟨h, 0, none⟩)) ?_
           refine dp 2 107 (.pointer (some ⟨h, 8, none⟩)) ?_
           refine HomesA.tox_draw .here ?_
           intro x18_3_h
           refine HomesXA.open_draw .here ?_
           refine dl 3 108 (iv y17_7.2.node) (load1 (off := 8) (fun _ => kf) (holds_own .here) kf) ?_
           refine dp 4 109 (.pointer (some ⟨b0_0, 1, none⟩)) ?_
           refine dl 5 110 (iv p.src) (load1 (off := 1) (fun _ => kf) (holds_own (.there (.there (.there (.there (.there (.there (.there .here)))))))) kf) ?_
           refine dp 6 111 (.pointer (some ⟨b0_0, 3, none⟩)) ?_
           refine dl 7 112 (iv p.id) (load1 (off := 3) (fun _ => kf) (holds_own (.there (.there (.there (.there (.there (.there (.there .here)))))))) kf) ?_
           refine dp 8 113 (.pointer (some ⟨b0_0, 4, none⟩)) ?_
           refine dl 9 114 (iv p.line) (load1 (off := 4) (fun _ => kf) (holds_own (.there (.there (.there (.there (.there (.there (.there .here)))))))) kf) ?_
           refine dp 10 115 (.agg #[iv (8), iv y17_7.2.node, iv p.src, iv p.id, iv p.line, iv (0), iv (0), .bool false, .slice none 0 0]) ?_
           refine d_do 11 [10, 0, 1, 2, 3, 4, 5, 6, 7, 8, 9] [] [] kf kf kf (st_store (off := 0) (vs := [iv (8), iv y17_7.2.node, iv p.src, iv p.id, iv p.line, iv (0), iv (0), .bool false, .slice none 0 0]) (c' := #[iv (8), iv y17_7.2.node, iv p.src, iv p.id, iv p.line, iv (0), iv (0), .bool false, .slice none 0 0]) (fun _ => kf) (.there (.there (.there (.there (.there (.there .here)))))) kf kf kf) ?_
           rintro _ _ ⟨rfl, rfl⟩
           refine ⟨stable_nil, ?_⟩
           refine dp 12 5 (.bool true) ?_
           refine dp 13 6 (iv (0)) ?_
           refine draw_end kf ?_
           refine ae [(4, .pointer (some ⟨b0_1, 0, none⟩)), (5, .bool true), (6, iv (0))] ?_
           refine at_then_normal ?_
           refine at_ret kf ?_
           refine At.conv (Γ' := (HomesXA h x18_3_h y17_7.2) :: (ImmI x18_3_h.a7 y17_7.2.c.init) :: (Asn.own b0_1 (.cells #[iv (8), iv y17_7.2.node, iv p.src, iv p.id, iv p.line, iv (0), iv (0), .bool false, .slice none 0 0] 32 (0, 0))) :: (ImmI x1_9_h.a7 hc.c.init) :: (Asn.own b0_0 (.cells #[iv p.kind, iv p.src, iv p.dst, iv p.id, iv p.line, iv p.ptr, iv p.state, .bool p.flag, .slice pa (List.length p.data) pcap] 32 (0, 0))) :: Γ) (fun w hw => HomesXA.close (x := x18_3_h) (t := y17_7.2) (Sat.less (.take (.there (.there (.there .here))) (.take .here (.take (.there (.there .here)) (.take (.there (.there .here)) (.take (.there (.there .here)) (.take .here (.take .here (.take .here (.take .here .refl))))))))) (ImmR.dup (Sat.less (.take (.there (.there .here)) (.take .here (.take .here (.take .here (.take .here (.take .here (.take .here (.take .here .refl)))))))) hw)))) ?_
           refine At.conv (Γ' := (HomesA h y17_7.2) :: (ImmI x18_3_h.a7 y17_7.2.c.init) :: (Asn.own b0_1 (.cells #[iv (8), iv y17_7.2.node, iv p.src, iv p.id, iv p.line, iv (0), iv (0), .bool false, .slice none 0 0] 32 (0, 0))) :: (ImmI x1_9_h.a7 hc.c.init) :: (Asn.own b0_0 (.cells #[iv p.kind, iv p.src, iv p.dst, iv p.id, iv p.line, iv p.ptr, iv p.state, .bool p.flag, .slice pa (List.length p.data) pcap] 32 (0, 0))) :: Γ) (fun w hw => HomesXA.shut (hw.pull .here)) ?_
           obtain rfl := someE H
           refine at_backR [.agg #[iv (8), iv y17_7.2.node, iv p.src, iv p.id, iv p.line, iv (0), iv (0), .bool false, .slice none 0 0], .bool true, iv (0)] ((IntsA none 0 ([] : List Int)) :: (HomesA h y17_7.2) :: Γ) (rs := [.cell 4 32, .tmp 5, .tmp 6]) kf (.cons (.cell kf (retN (off := 0) (vs := [iv (8), iv y17_7.2.node, iv p.src, iv p.id, iv p.line, iv (0), iv (0), .bool false, .slice none 0 0]) 9 (fun _ => kf) (holds_own (.there (.there .here))) rfl (by exact ⟨rfl, rfl, rfl, rfl, rfl, rfl, rfl, rfl, rfl, trivial⟩))) (.cons (.tmp kf) (.cons (.tmp kf) .nil))) (fun w hw => (Sat.less (.take .here (.take .here (.drop .here (.drop .here (.drop .here (.drop .here .refl)))))) (RowsA.none_mk (k := 1) (a := none) hw))) ?_
           exact ⟨none, 0, rfl, rfl⟩
         ·replace H := bifF H h10
          refine at_false (t := p.flag) (x := C22 [1,1,1,1,1,1,0,1,0]) (y := C22 [1,1,1,1,1,1,0,1,1]) (o := .tmp 81) kf kf kf h10 ?_
          refine at_skip kf ?_
          refine at_then_normal ?_
          refine aq (x := C22 [1,1,1,1,1,1,1,0]) (y := C22 [1,1,1,1,1,1,1,1]) ?_
          refine aq (x := C22 [1,1,1,1,1,1,1,0,0]) (y := C22 [1,1,1,1,1,1,1,0,1]) ?_
          refine ar (id := 14) 10 ?_
          refine sp 84 (.pointer (some ⟨h, 0, none⟩)) ?_
          refine sp 85 (.pointer (some ⟨b0_0, 4, none⟩)) ?_
          refine sl 86 (iv p.line) (load1 (off := 4) (fun _ => kf) (holds_own (.there (.there (.there .here)))) kf) ?_
          refine sp 87 (.pointer (some ⟨b0_0, 6, none⟩)) ?_
          refine sl 88 (iv p.state) (load1 (off := 6) (fun _ => kf) (holds_own (.there (.there (.there .here)))) kf) ?_
          refine sp 89 (.pointer (some ⟨b0_0, 5, none⟩)) ?_
          refine sl 90 (iv p.ptr) (load1 (off := 5) (fun _ => kf) (holds_own (.there (.there (.there .here)))) kf) ?_
          refine sp 91 (.slice none 0 0) ?_
          refine At.conv (Γ' := (HomesA h hc) :: (ImmI x1_9_h.a7 hc.c.init) :: (Asn.own b0_1 (.cells #[iv (0), iv (0), iv (0), iv (0), iv (0), iv (0), iv (0), .bool false, .slice none 0 0] 32 (0, 0))) :: (Asn.own b0_0 (.cells #[iv p.kind, iv p.src, iv p.dst, iv p.id, iv p.line, iv p.ptr, iv p.state, .bool p.flag, .slice pa (List.length p.data) pcap] 32 (0, 0))) :: Γ) (fun w hw => HomesXA.shut (hw.pull .here)) ?_
          obtain ⟨y14_8, hy14_8, H⟩ := bindE H
          refine s_call 92 42 #[.pointer (some ⟨h, 0, none⟩), iv p.line, iv p.state, iv p.ptr, .slice none 0 0] kf kf (fun _ => kf) (SSetF_tr h hc p.line p.state p.ptr none 0 ([] : List Int) Reads.nil y14_8 hy14_8) ?_
          rintro _ _ ⟨rfl, rfl⟩
          refine sp 8 (iv y14_8.1) ?_
          refine ops_end ?_
          refine ae [(0, .pointer (some ⟨h, 0, none⟩)), (3, .pointer (some ⟨b0_0, 0, none⟩)), (4, .pointer (some ⟨b0_1, 0, none⟩)), (8, iv y14_8.1)] ?_
          refine at_then_normal ?_
          refine aq (x := C22 [1,1,1,1,1,1,1,0,1,0]) (y := C22 [1,1,1,1,1,1,1,0,1,1]) ?_
          refine ar (id := 15) 2 ?_
          refine sp 93 (iv y14_8.1) ?_
          refine sp 94 (.bool (!(decide (y14_8.1 = (0 : Int))))) ?_
          refine ops_end ?_
          refine ae [(0, .pointer (some ⟨h, 0, none⟩)), (3, .pointer (some ⟨b0_0, 0, none⟩)), (4, .pointer (some ⟨b0_1, 0, none⟩)), (8, iv y14_8.1), (94, .bool (!(decide (y14_8.1 = (0 : Int)))))] ?_
          refine at_then_normal ?_
          rcases Bool.eq_false_or_eq_true (!(decide (y14_8.1 = (0 : Int)))) with h12 | h12
          ·replace H := bifT H h12
           refine at_true (t := !(decide (y14_8.1 = (0 : Int)))) (x := C22 [1,1,1,1,1,1,1,0,1,1,0]) (y := C22 [1,1,1,1,1,1,1,0,1,1,1]) (o := .tmp 94) kf kf kf h12 ?_
           refine aq (x := C22 [1,1,1,1,1,1,1,0,1,1,0,0]) (y := C22 [1,1,1,1,1,1,1,0,1,1,0,1]) ?_
           refine ar (id := 16) 5 ?_
           refine sp 95 (.agg #[iv (0), iv (0), iv (0), iv (0), iv (0), iv (0), iv (0), .bool false, .slice none 0 0]) ?_
           refine sp 96 (iv y14_8.1) ?_
           refine s_do kf kf (st_store (off := 0) (vs := [iv (0), iv (0), iv (0), iv (0), iv (0), iv (0), iv (0), .bool false, .slice none 0 0]) (c' := #[iv (0), iv (0), iv (0), iv (0), iv (0), iv (0), iv (0), .bool false, .slice none 0 0]) (fun _ => kf) (.there (.there .here)) kf kf kf) ?_
           rintro _ _ ⟨rfl, rfl⟩
           refine sp 5 (.bool false) ?_
           refine sp 6 (iv y14_8.1) ?_
           refine ops_end ?_
           refine ae [(4, .pointer (some ⟨b0_1, 0, none⟩)), (5, .bool false), (6, iv y14_8.1)] ?_
           refine at_then_normal ?_
           refine at_ret kf ?_
           refine at_then_ret ?_
           obtain rfl := someE H
           refine at_backR [.agg #[iv (0), iv (0), iv (0), iv (0), iv (0), iv (0), iv (0), .bool false, .slice none 0 0], .bool false, iv y14_8.1] ((IntsA none 0 ([] : List Int)) :: (HomesA h y14_8.2) :: Γ) (rs := [.cell 4 32, .tmp 5, .tmp 6]) kf (.cons (.cell kf (retN (off := 0) (vs := [iv (0), iv (0), iv (0), iv (0), iv (0), iv (0), iv (0), .bool false, .slice none 0 0]) 9 (fun _ => kf) (holds_own .here) rfl (by exact ⟨rfl, rfl, rfl, rfl, rfl, rfl, rfl, rfl, rfl, trivial⟩))) (.cons (.tmp kf) (.cons (.tmp kf) .nil))) (fun w hw => (Sat.less (.take .here (.take (.there .here) (.drop .here (.drop .here (.drop .here .refl))))) (RowsA.none_mk (k := 1) (a := none) hw))) ?_
           exact ⟨none, 0, rfl, rfl⟩
          ·replace H := bifF H h12
           refine at_false (t := !(decide (y14_8.1 = (0 : Int)))) (x := C22 [1,1,1,1,1,1,1,0,1,1,0]) (y := C22 [1,1,1,1,1,1,1,0,1,1,1]) (o := .tmp 94) kf kf kf h12 ?_
           refine at_skip kf ?_
           refine at_then_normal ?_
           refine aq (x := C22 [1,1,1,1,1,1,1,1,0]) (y := C22 [1,1,1,1,1,1,1,1,1]) ?_
           refine at_region_draw (id := 17) kf kf ?_
           refine dp 0 97 (.pointer (some ⟨h, 0, none⟩)) ?_
           refine dp 1 98 (.pointer (some ⟨h, 0, none⟩)) ?_
           refine dp 2 99 (.pointer (some ⟨h, 10, none⟩)) ?_
           refine dp 3 100 (.pointer (some ⟨b0_0, 4, none⟩)) ?_
           refine dl 4 101 (iv p.line) (load1 (off := 4) (fun _ => kf) (holds_own (.there (.there (.there .here)))) kf) ?_
           refine dp 5 102 (.pointer (some ⟨b0_0, 1, none⟩)) ?_
           refine dl 6 103 (iv p.src) (load1 (off := 1) (fun _ => kf) (holds_own (.there (.there (.there .here)))) kf) ?_
           obtain ⟨y17_7, hy17_7, H⟩ := bindE H
           refine d_call 7 104 [2, 4, 6, 1, 3, 5, 0] [] [] 43 #[.pointer (some ⟨h, 10, none⟩), iv p.line, iv p.src] kf kf kf (fun _ => kf) (QReleaseF_tr h y14_8.2 p.line p.src y17_7 hy17_7) ?_
           rintro _ _ ⟨rfl, rfl⟩
           refine ⟨stable_nil, ?_⟩
           refine draw_end kf ?_
           refine ae [(0, .pointer (some ⟨h, 0, none⟩)), (3, .pointer (some ⟨b0_0, 0, none⟩)), (4, .pointer (some ⟨b0_1, 0, none⟩))] ?_
           refine at_then_normal ?_
           refine aq (x := C22 [1,1,1,1,1,1,1,1,1,0]) (y := C22 [1,1,1,1,1,1,1,1,1,1]) ?_
           refine at_region_draw (id := 18) kf kf ?_
           refine dp 0 105 (.pointer (some ⟨h, 0, none⟩)) ?_
           refine dp 1 106 (.pointer (some ⟨h, 0, none⟩)) ?_
           refine dp 2 107 (.pointer (some ⟨h, 8, none⟩)) ?_
           refine HomesA.tox_draw .here ?_
           intro x18_3_h
           refine HomesXA.open_draw .here ?_
           refine dl 3 108 (iv y17_7.2.node) (load1 (off := 8) (fun _ => kf) (holds_own .here) kf) ?_
           refine dp 4 109 (.pointer (some ⟨b0_0, 1, none⟩)) ?_
           refine dl 5 110 (iv p.src) (load1 (off := 1) (fun _ => kf) (holds_own (.there (.there (.there (.there (.there (.there (.there .here)))))))) kf) ?_
           refine dp 6 111 (.pointer (some ⟨b0_0, 3, none⟩)) ?_
           refine dl 7 112 (iv p.id) (load1 (off := 3) (fun _ => kf) (holds_own (.there (.there (.there (.there (.there (.there (.there .here)))))))) kf) ?_
           refine dp 8 113 (.pointer (some ⟨b0_0, 4, none⟩)) ?_
           refine dl 9 114 (iv p.line) (load1 (off := 4) (fun _ => kf) (holds_own (.there (.there (.there (.there (.there (.there (.there .here)))))))) kf) ?_
           refine dp 10 115 (.agg #[iv (8), iv y17_7.2.node, iv p.src, iv p.id, iv p.line, iv (0), iv (0), .bool false, .slice none 0 0]) ?_
           refine d_do 11 [10, 0, 1, 2, 3, 4, 5, 6, 7, 8, 9] [] [] kf kf kf (st_store (off := 0) (vs := [iv (8), iv y17_7.2.node, iv p.src, iv p.id, iv p.line, iv (0), iv (0), .bool false, .slice none 0 0]) (c' := #[iv (8), iv y17_7.2.node, iv p.src, iv p.id, iv p.line, iv (0), iv (0), .bool false, .slice none 0 0]) (fun _ => kf) (.there (.there (.there (.there (.there (.there .here)))))) kf kf kf) ?_
           rintro _ _ ⟨rfl, rfl⟩
           refine ⟨stable_nil, ?_⟩
           refine dp 12 5 (.bool true) ?_
           refine dp 13 6 (iv (0)) ?_
           refine draw_end kf ?_
           refine ae [(4, .pointer (some ⟨b0_1, 0, none⟩)), (5, .bool true), (6, iv (0))] ?_
           refine at_then_normal ?_
           refine at_ret kf ?_
           refine At.conv (Γ' := (HomesXA h x18_3_h y17_7.2) :: (ImmI x18_3_h.a7 y17_7.2.c.init) :: (Asn.own b0_1 (.cells #[iv (8), iv y17_7.2.node, iv p.src, iv p.id, iv p.line, iv (0), iv (0), .bool false, .slice none 0 0] 32 (0, 0))) :: (ImmI x1_9_h.a7 hc.c.init) :: (Asn.own b0_0 (.cells #[iv p.kind, iv p.src, iv p.dst, iv p.id, iv p.line, iv p.ptr, iv p.state, .bool p.flag, .slice pa (List.length p.data) pcap] 32 (0, 0))) :: Γ) (fun w hw => HomesXA.close (x := x18_3_h) (t := y17_7.2) (Sat.less (.take (.there (.there (.there .here))) (.take .here (.take (.there (.there .here)) (.take (.there (.there .here)) (.take (.there (.there .here)) (.take .here (.take .here (.take .here (.take .here .refl))))))))) (ImmR.dup (Sat.less (.take (.there (.there .here)) (.take .here (.take .here (.take .here (.take .here (.take .here (.take .here (.take .here .refl)))))))) hw)))) ?_
           refine At.conv (Γ' := (HomesA h y17_7.2) :: (ImmI x18_3_h.a7 y17_7.2.c.init) :: (Asn.own b0_1 (.cells #[iv (8), iv y17_7.2.node, iv p.src, iv p.id, iv p.line, iv (0), iv (0), .bool false, .slice none 0 0] 32 (0, 0))) :: (ImmI x1_9_h.a7 hc.c.init) :: (Asn.own b0_0 (.cells #[iv p.kind, iv p.src, iv p.dst, iv p.id, iv p.line, iv p.ptr, iv p.state, .bool p.flag, .slice pa (List.length p.data) pcap] 32 (0, 0))) :: Γ) (fun w hw => HomesXA.shut (hw.pull .here)) ?_
           obtain rfl := someE H
           refine at_backR [.agg #[iv (8), iv y17_7.2.node, iv p.src, iv p.id, iv p.line, iv (0), iv (0), .bool false, .slice none 0 0], .bool true, iv (0)] ((IntsA none 0 ([] : List Int)) :: (HomesA h y17_7.2) :: Γ) (rs := [.cell 4 32, .tmp 5, .tmp 6]) kf (.cons (.cell kf (retN (off := 0) (vs := [iv (8), iv y17_7.2.node, iv p.src, iv p.id, iv p.line, iv (0), iv (0), .bool false, .slice none 0 0]) 9 (fun _ => kf) (holds_own (.there (.there .here))) rfl (by exact ⟨rfl, rfl, rfl, rfl, rfl, rfl, rfl, rfl, rfl, trivial⟩))) (.cons (.tmp kf) (.cons (.tmp kf) .nil))) (fun w hw => (Sat.less (.take .here (.take .here (.drop .here (.drop .here (.drop .here (.drop .here .refl)))))) (RowsA.none_mk (k := 1) (a := none) hw))) ?_
           exact ⟨none, 0, rfl, rfl⟩
    ·replace H := bifF H h4
     refine d_pure 26 35 (.bool false) kf kf kf (run_eq (v := .bool (!(decide (p.kind = (1 : Int))))) (fun _ => kf) (congrArg Value.bool h4)) ?_
     refine d_off 27 36 kf kf kf ?_
     refine d_off 28 37 kf kf kf ?_
     refine d_off 29 38 kf kf kf ?_
     refine dp 30 39 (.bool false) ?_
     refine dp 31 40 (.bool false) ?_
     refine draw_end kf ?_
     refine ae [(0, .pointer (some ⟨h, 0, none⟩)), (3, .pointer (some ⟨b0_0, 0, none⟩)), (4, .pointer (some ⟨b0_1, 0, none⟩)), (40, .bool false)] ?_
     refine at_then_normal ?_
     refine at_false (t := false) (x := C22 [1,0,1,0]) (y := C22 [1,0,1,1]) (o := .tmp 40) kf kf kf rfl ?_
     refine at_skip kf ?_
     refine at_then_normal ?_
     refine aq (x := C22 [1,1,0]) (y := C22 [1,1,1]) ?_
     refine aq (x := C22 [1,1,0,0]) (y := C22 [1,1,0,1]) ?_
     refine ar (id := 3) 5 ?_
     refine sp 42 (.pointer (some ⟨h, 0, none⟩)) ?_
     refine sp 43 (.pointer (some ⟨b0_0, 4, none⟩)) ?_
     refine sl 44 (iv p.line) (load1 (off := 4) (fun _ => kf) (holds_own (.there (.there (.there (.there (.there (.there .here))))))) kf) ?_
     refine At.conv (Γ' := (HomesXA h x1_9_h hc) :: (ImmI x1_9_h.a7 hc.c.init) :: (Asn.own b0_1 (.cells #[iv (0), iv (0), iv (0), iv (0), iv (0), iv (0), iv (0), .bool false, .slice none 0 0] 32 (0, 0))) :: (Asn.own b0_0 (.cells #[iv p.kind, iv p.src, iv p.dst, iv p.id, iv p.line, iv p.ptr, iv p.state, .bool p.flag, .slice pa (List.length p.data) pcap] 32 (0, 0))) :: Γ) (fun w hw => HomesXA.close (x := x1_9_h) (t := hc) (Sat.less (.take (.there (.there .here)) (.take .here (.take (.there .here) (.take (.there .here) (.take (.there .here) (.take .here (.take .here (.take .here .refl)))))))) (ImmR.dup (Sat.less (.take (.there .here) (.take .here (.take .here (.take .here (.take .here (.take .here (.take .here .refl))))))) hw)))) ?_
     obtain ⟨y3_3, hy3_3, H⟩ := bindE H
     refine s_call 45 40 #[.pointer (some ⟨h, 0, none⟩), iv p.line] kf kf (fun _ => kf) (SHereF_tr h x1_9_h hc p.line y3_3 hy3_3) ?_
     rintro _ _ ⟨rfl, rfl⟩
     refine sp 46 (.bool !y3_3) ?_
     refine ops_end ?_
     refine ae [(0, .pointer (some ⟨h, 0, none⟩)), (3, .pointer (some ⟨b0_0, 0, none⟩)), (4, .pointer (some ⟨b0_1, 0, none⟩)), (46, .bool !y3_3)] ?_
     refine at_then_normal ?_
     rcases Bool.eq_false_or_eq_true (!y3_3) with h13 | h13
     ·replace H := bifT H h13
      refine at_true (t := !y3_3) (x := C22 [1,1,0,1,0]) (y := C22 [1,1,0,1,1]) (o := .tmp 46) kf kf kf h13 ?_
      refine aq (x := C22 [1,1,0,1,0,0]) (y := C22 [1,1,0,1,0,1]) ?_
      refine ar (id := 4) 4 ?_
      refine sp 47 (.agg #[iv (0), iv (0), iv (0), iv (0), iv (0), iv (0), iv (0), .bool false, .slice none 0 0]) ?_
      refine s_do kf kf (st_store (off := 0) (vs := [iv (0), iv (0), iv (0), iv (0), iv (0), iv (0), iv (0), .bool false, .slice none 0 0]) (c' := #[iv (0), iv (0), iv (0), iv (0), iv (0), iv (0), iv (0), .bool false, .slice none 0 0]) (fun _ => kf) (.there (.there .here)) kf kf kf) ?_
      rintro _ _ ⟨rfl, rfl⟩
      refine sp 5 (.bool false) ?_
      refine sp 6 (iv (3)) ?_
      refine ops_end ?_
      refine ae [(4, .pointer (some ⟨b0_1, 0, none⟩)), (5, .bool false), (6, iv (3))] ?_
      refine at_then_normal ?_
      refine at_ret kf ?_
      refine at_then_ret ?_
      refine At.conv (Γ' := (HomesA h hc) :: (Asn.own b0_1 (.cells #[iv (0), iv (0), iv (0), iv (0), iv (0), iv (0), iv (0), .bool false, .slice none 0 0] 32 (0, 0))) :: (ImmI x1_9_h.a7 hc.c.init) :: (Asn.own b0_0 (.cells #[iv p.kind, iv p.src, iv p.dst, iv p.id, iv p.line, iv p.ptr, iv p.state, .bool p.flag, .slice pa (List.length p.data) pcap] 32 (0, 0))) :: Γ) (fun w hw => HomesXA.shut (hw.pull (.there .here))) ?_
      obtain rfl := someE H
      refine at_backR [.agg #[iv (0), iv (0), iv (0), iv (0), iv (0), iv (0), iv (0), .bool false, .slice none 0 0], .bool false, iv (3)] ((IntsA none 0 ([] : List Int)) :: (HomesA h hc) :: Γ) (rs := [.cell 4 32, .tmp 5, .tmp 6]) kf (.cons (.cell kf (retN (off := 0) (vs := [iv (0), iv (0), iv (0), iv (0), iv (0), iv (0), iv (0), .bool false, .slice none 0 0]) 9 (fun _ => kf) (holds_own (.there .here)) rfl (by exact ⟨rfl, rfl, rfl, rfl, rfl, rfl, rfl, rfl, rfl, trivial⟩))) (.cons (.tmp kf) (.cons (.tmp kf) .nil))) (fun w hw => (Sat.less (.take .here (.take .here (.drop .here (.drop .here (.drop .here .refl))))) (RowsA.none_mk (k := 1) (a := none) hw))) ?_
      exact ⟨none, 0, rfl, rfl⟩
     ·replace H := bifF H h13
      refine at_false (t := !y3_3) (x := C22 [1,1,0,1,0]) (y := C22 [1,1,0,1,1]) (o := .tmp 46) kf kf kf h13 ?_
      refine at_skip kf ?_
      refine at_then_normal ?_
      refine aq (x := C22 [1,1,1,0]) (y := C22 [1,1,1,1]) ?_
      refine aq (x := C22 [1,1,1,0,0]) (y := C22 [1,1,1,0,1]) ?_
      refine ar (id := 5) 3 ?_
      refine sp 48 (.pointer (some ⟨b0_0, 0, none⟩)) ?_
      refine sl 49 (iv p.kind) (load1 (off := 0) (fun _ => kf) (holds_own (.there (.there (.there .here)))) kf) ?_
      refine sp 50 (.bool (decide (p.kind = (1 : Int)))) ?_
      refine ops_end ?_
      refine ae [(0, .pointer (some ⟨h, 0, none⟩)), (3, .pointer (some ⟨b0_0, 0, none⟩)), (4, .pointer (some ⟨b0_1, 0, none⟩)), (50, .bool (decide (p.kind = (1 : Int))))] ?_
      refine at_then_normal ?_
      rcases Bool.eq_false_or_eq_true (decide (p.kind = (1 : Int))) with h14 | h14
      ·replace H := bifT H h14
       refine at_true (t := decide (p.kind = (1 : Int))) (x := C22 [1,1,1,0,1,0]) (y := C22 [1,1,1,0,1,1]) (o := .tmp 50) kf kf kf h14 ?_
       refine aq (x := C22 [1,1,1,0,1,0,0]) (y := C22 [1,1,1,0,1,0,1]) ?_
       refine aq (x := C22 [1,1,1,0,1,0,0,0]) (y := C22 [1,1,1,0,1,0,0,1]) ?_
       refine at_region_draw (id := 6) kf kf ?_
       refine dp 0 51 (.pointer (some ⟨h, 0, none⟩)) ?_
       refine dp 1 52 (.pointer (some ⟨h, 0, none⟩)) ?_
       refine dp 2 53 (.pointer (some ⟨h, 10, none⟩)) ?_
       refine dp 3 54 (.pointer (some ⟨b0_0, 4, none⟩)) ?_
       refine dl 4 55 (iv p.line) (load1 (off := 4) (fun _ => kf) (holds_own (.there (.there (.there .here)))) kf) ?_
       refine dp 5 56 (.pointer (some ⟨b0_0, 1, none⟩)) ?_
       refine dl 6 57 (iv p.src) (load1 (off := 1) (fun _ => kf) (holds_own (.there (.there (.there .here)))) kf) ?_
       refine dp 7 58 (.pointer (some ⟨b0_0, 3, none⟩)) ?_
       refine dl 8 59 (iv p.id) (load1 (off := 3) (fun _ => kf) (holds_own (.there (.there (.there .here)))) kf) ?_
       refine Draw.convS (Γ' := (HomesA h hc) :: (ImmI x1_9_h.a7 hc.c.init) :: (Asn.own b0_1 (.cells #[iv (0), iv (0), iv (0), iv (0), iv (0), iv (0), iv (0), .bool false, .slice none 0 0] 32 (0, 0))) :: (Asn.own b0_0 (.cells #[iv p.kind, iv p.src, iv p.dst, iv p.id, iv p.line, iv p.ptr, iv p.state, .bool p.flag, .slice pa (List.length p.data) pcap] 32 (0, 0))) :: Γ) (fun w hw => HomesXA.shut (hw.pull .here)) (stable_cons 8 59 (iv p.id) kf kf kf (load1 (off := 3) (fun _ => kf) (holds_own (.there (.there (.there .here)))) kf) (stable_cons 6 57 (iv p.src) kf kf kf (load1 (off := 1) (fun _ => kf) (holds_own (.there (.there (.there .here)))) kf) (stable_cons 4 55 (iv p.line) kf kf kf (load1 (off := 4) (fun _ => kf) (holds_own (.there (.there (.there .here)))) kf) stable_nil))) ?_
       obtain ⟨y6_9, hy6_9, H⟩ := bindE H
       refine d_call 9 60 [2, 4, 6, 8, 1, 3, 5, 7, 0] [] [] 41 #[.pointer (some ⟨h, 10, none⟩), iv p.line, iv p.src, iv p.id] kf kf kf (fun _ => kf) (QAskF_tr h hc p.line p.src p.id y6_9 hy6_9) ?_
       rintro _ _ ⟨rfl, rfl⟩
       refine ⟨stable_nil, ?_⟩
       refine draw_end kf ?_
       refine ae [(0, .pointer (some ⟨h, 0, none⟩)), (3, .pointer (some ⟨b0_0, 0, none⟩)), (4, .pointer (some ⟨b0_1, 0, none⟩)), (60, .bool y6_9.1)] ?_
       refine at_then_normal ?_
       rcases Bool.eq_false_or_eq_true (y6_9.1) with h15 | h15
       ·replace H := bifT H h15
        refine at_true (t := y6_9.1) (x := C22 [1,1,1,0,1,0,0,1,0]) (y := C22 [1,1,1,0,1,0,0,1,1]) (o := .tmp 60) kf kf kf h15 ?_
        refine aq (x := C22 [1,1,1,0,1,0,0,1,0,0]) (y := C22 [1,1,1,0,1,0,0,1,0,1]) ?_
        refine ar (id := 7) 11 ?_
        refine sp 61 (.pointer (some ⟨h, 0, none⟩)) ?_
        refine sp 62 (.pointer (some ⟨b0_0, 4, none⟩)) ?_
        refine sl 63 (iv p.line) (load1 (off := 4) (fun _ => kf) (holds_own (.there (.there (.there .here)))) kf) ?_
        refine sp 64 (.pointer (some ⟨b0_0, 1, none⟩)) ?_
        refine sl 65 (iv p.src) (load1 (off := 1) (fun _ => kf) (holds_own (.there (.there (.there .here)))) kf) ?_
        refine sp 66 (.pointer (some ⟨b0_0, 3, none⟩)) ?_
        refine sl 67 (iv p.id) (load1 (off := 3) (fun _ => kf) (holds_own (.there (.there (.there .here)))) kf) ?_
        refine HomesA.tox .here ?_
        intro x7_7_h
        obtain ⟨y7_7, hy7_7, H⟩ := bindE H
        refine s_call 68 37 #[.pointer (some ⟨h, 0, none⟩), iv p.line, iv p.src, iv p.id] kf kf (fun _ => kf) (SGrantedF_tr h x7_7_h y6_9.2 p.line p.src p.id y7_7 hy7_7) ?_
        rintro _ _ ⟨a7_7_00, c7_7_00, rfl, rfl⟩
        refine s_do kf kf (st_store (off := 0) (vs := [iv y7_7.kind, iv y7_7.src, iv y7_7.dst, iv y7_7.id, iv y7_7.line, iv y7_7.ptr, iv y7_7.state, .bool y7_7.flag, .slice a7_7_00 (List.length y7_7.data) c7_7_00]) (c' := #[iv y7_7.kind, iv y7_7.src, iv y7_7.dst, iv y7_7.id, iv y7_7.line, iv y7_7.ptr, iv y7_7.state, .bool y7_7.flag, .slice a7_7_00 (List.length y7_7.data) c7_7_00]) (fun _ => kf) (.there (.there (.there .here))) kf kf kf) ?_
        rintro _ _ ⟨rfl, rfl⟩
        refine sp 5 (.bool true) ?_
        refine sp 6 (iv (0)) ?_
        refine ops_end ?_
        refine ae [(4, .pointer (some ⟨b0_1, 0, none⟩)), (5, .bool true), (6, iv (0))] ?_
        refine at_then_normal ?_
        refine at_ret kf ?_
        refine at_then_ret ?_
        refine at_then_ret ?_
        refine At.conv (Γ' := (HomesA h y6_9.2) :: (Asn.own b0_1 (.cells #[iv y7_7.kind, iv y7_7.src, iv y7_7.dst, iv y7_7.id, iv y7_7.line, iv y7_7.ptr, iv y7_7.state, .bool y7_7.flag, .slice a7_7_00 (List.length y7_7.data) c7_7_00] 32 (0, 0))) :: (IntsA a7_7_00 c7_7_00 y7_7.data) :: (ImmI x1_9_h.a7 hc.c.init) :: (Asn.own b0_0 (.cells #[iv p.kind, iv p.src, iv p.dst, iv p.id, iv p.line, iv p.ptr, iv p.state, .bool p.flag, .slice pa (List.length p.data) pcap] 32 (0, 0))) :: Γ) (fun w hw => HomesXA.shut (hw.pull (.there (.there .here)))) ?_
        obtain rfl := someE H
        refine at_backR [.agg #[iv y7_7.kind, iv y7_7.src, iv y7_7.dst, iv y7_7.id, iv y7_7.line, iv y7_7.ptr, iv y7_7.state, .bool y7_7.flag, .slice a7_7_00 (List.length y7_7.data) c7_7_00], .bool true, iv (0)] ((IntsA a7_7_00 c7_7_00 y7_7.data) :: (HomesA h y6_9.2) :: Γ) (rs := [.cell 4 32, .tmp 5, .tmp 6]) kf (.cons (.cell kf (retN (off := 0) (vs := [iv y7_7.kind, iv y7_7.src, iv y7_7.dst, iv y7_7.id, iv y7_7.line, iv y7_7.ptr, iv y7_7.state, .bool y7_7.flag, .slice a7_7_00 (List.length y7_7.data) c7_7_00]) 9 (fun _ => kf) (holds_own (.there .here)) rfl (by exact ⟨rfl, rfl, rfl, rfl, rfl, rfl, rfl, rfl, rfl, trivial⟩))) (.cons (.tmp kf) (.cons (.tmp kf) .nil))) (fun w hw => (Sat.less (.take (.there (.there .here)) (.take .here (.drop .here (.drop .here (.drop .here .refl))))) hw)) ?_
        exact ⟨a7_7_00, c7_7_00, rfl, rfl⟩
       ·replace H := bifF H h15
        refine at_false (t := y6_9.1) (x := C22 [1,1,1,0,1,0,0,1,0]) (y := C22 [1,1,1,0,1,0,0,1,1]) (o := .tmp 60) kf kf kf h15 ?_
        refine at_skip kf ?_
        refine at_then_normal ?_
        refine aq (x := C22 [1,1,1,0,1,0,1,0]) (y := C22 [1,1,1,0,1,0,1,1]) ?_
        refine ar (id := 8) 4 ?_
        refine sp 69 (.agg #[iv (0), iv (0), iv (0), iv (0), iv (0), iv (0), iv (0), .bool false, .slice none 0 0]) ?_
        refine s_do kf kf (st_store (off := 0) (vs := [iv (0), iv (0), iv (0), iv (0), iv (0), iv (0), iv (0), .bool false, .slice none 0 0]) (c' := #[iv (0), iv (0), iv (0), iv (0), iv (0), iv (0), iv (0), .bool false, .slice none 0 0]) (fun _ => kf) (.there (.there .here)) kf kf kf) ?_
        rintro _ _ ⟨rfl, rfl⟩
        refine sp 5 (.bool false) ?_
        refine sp 6 (iv (0)) ?_
        refine ops_end ?_
        refine ae [(4, .pointer (some ⟨b0_1, 0, none⟩)), (5, .bool false), (6, iv (0))] ?_
        refine at_then_normal ?_
        refine at_ret kf ?_
        refine at_then_ret ?_
        obtain rfl := someE H
        refine at_backR [.agg #[iv (0), iv (0), iv (0), iv (0), iv (0), iv (0), iv (0), .bool false, .slice none 0 0], .bool false, iv (0)] ((IntsA none 0 ([] : List Int)) :: (HomesA h y6_9.2) :: Γ) (rs := [.cell 4 32, .tmp 5, .tmp 6]) kf (.cons (.cell kf (retN (off := 0) (vs := [iv (0), iv (0), iv (0), iv (0), iv (0), iv (0), iv (0), .bool false, .slice none 0 0]) 9 (fun _ => kf) (holds_own .here) rfl (by exact ⟨rfl, rfl, rfl, rfl, rfl, rfl, rfl, rfl, rfl, trivial⟩))) (.cons (.tmp kf) (.cons (.tmp kf) .nil))) (fun w hw => (Sat.less (.take .here (.take (.there .here) (.drop .here (.drop .here (.drop .here .refl))))) (RowsA.none_mk (k := 1) (a := none) hw))) ?_
        exact ⟨none, 0, rfl, rfl⟩
      ·replace H := bifF H h14
       refine at_false (t := decide (p.kind = (1 : Int))) (x := C22 [1,1,1,0,1,0]) (y := C22 [1,1,1,0,1,1]) (o := .tmp 50) kf kf kf h14 ?_
       refine at_skip kf ?_
       refine at_then_normal ?_
       refine aq (x := C22 [1,1,1,1,0]) (y := C22 [1,1,1,1,1]) ?_
       refine aq (x := C22 [1,1,1,1,0,0]) (y := C22 [1,1,1,1,0,1]) ?_
       refine at_region_draw (id := 9) kf kf ?_
       refine dp 0 70 (.pointer (some ⟨h, 0, none⟩)) ?_
       refine dp 1 71 (.pointer (some ⟨h, 0, none⟩)) ?_
       refine dp 2 72 (.pointer (some ⟨h, 10, none⟩)) ?_
       refine dp 3 73 (.pointer (some ⟨b0_0, 4, none⟩)) ?_
       refine dl 4 74 (iv p.line) (load1 (off := 4) (fun _ => kf) (holds_own (.there (.there (.there .here)))) kf) ?_
       refine dp 6 76 (.pointer (some ⟨b0_0, 1, none⟩)) ?_
       refine dl 7 77 (iv p.src) (load1 (off := 1) (fun _ => kf) (holds_own (.there (.there (.there .here)))) kf) ?_
       obtain ⟨y9_5, hy9_5, H⟩ := bindE H
       refine d_call 5 75 [2, 4, 1, 3, 0] [6] [7] 20 #[.pointer (some ⟨h, 10, none⟩), iv p.line] kf kf kf (fun _ => kf) (QOwnerF_tr h x1_9_h hc p.line y9_5 hy9_5) ?_
       rintro _ _ ⟨rfl, rfl⟩
       refine ⟨(stable_cons 7 77 (iv p.src) kf kf kf (load1 (off := 1) (fun _ => kf) (holds_own (.there (.there (.there .here)))) kf) stable_nil), ?_⟩
       refine dp 8 78 (.bool (!(decide (y9_5 = p.src)))) ?_
       refine draw_end kf ?_
       refine ae [(0, .pointer (some ⟨h, 0, none⟩)), (3, .pointer (some ⟨b0_0, 0, none⟩)), (4, .pointer (some ⟨b0_1, 0, none⟩)), (78, .bool (!(decide (y9_5 = p.src))))] ?_
       refine at_then_normal ?_
       rcases Bool.eq_false_or_eq_true (!(decide (y9_5 = p.src))) with h16 | h16
       ·replace H := bifT H h16
        refine at_true (t := !(decide (y9_5 = p.src))) (x := C22 [1,1,1,1,0,1,0]) (y := C22 [1,1,1,1,0,1,1]) (o := .tmp 78) kf kf kf h16 ?_
        refine aq (x := C22 [1,1,1,1,0,1,0,0]) (y := C22 [1,1,1,1,0,1,0,1]) ?_
        refine ar (id := 10) 4 ?_
        refine sp 79 (.agg #[iv (0), iv (0), iv (0), iv (0), iv (0), iv (0), iv (0), .bool false, .slice none 0 0]) ?_
        refine s_do kf kf (st_store (off := 0) (vs := [iv (0), iv (0), iv (0), iv (0), iv (0), iv (0), iv (0), .bool false, .slice none 0 0]) (c' := #[iv (0), iv (0), iv (0), iv (0), iv (0), iv (0), iv (0), .bool false, .slice none 0 0]) (fun _ => kf) (.there (.there .here)) kf kf kf) ?_
        rintro _ _ ⟨rfl, rfl⟩
        refine sp 5 (.bool false) ?_
        refine sp 6 (iv (6)) ?_
        refine ops_end ?_
        refine ae [(4, .pointer (some ⟨b0_1, 0, none⟩)), (5, .bool false), (6, iv (6))] ?_
        refine at_then_normal ?_
        refine at_ret kf ?_
        refine at_then_ret ?_
        refine At.conv (Γ' := (HomesA h hc) :: (Asn.own b0_1 (.cells #[iv (0), iv (0), iv (0), iv (0), iv (0), iv (0), iv (0), .bool false, .slice none 0 0] 32 (0, 0))) :: (ImmI x1_9_h.a7 hc.c.init) :: (Asn.own b0_0 (.cells #[iv p.kind, iv p.src, iv p.dst, iv p.id, iv p.line, iv p.ptr, iv p.state, .bool p.flag, .slice pa (List.length p.data) pcap] 32 (0, 0))) :: Γ) (fun w hw => HomesXA.shut (hw.pull (.there .here))) ?_
        obtain rfl := someE H
        refine at_backR [.agg #[iv (0), iv (0), iv (0), iv (0), iv (0), iv (0), iv (0), .bool false, .slice none 0 0], .bool false, iv (6)] ((IntsA none 0 ([] : List Int)) :: (HomesA h hc) :: Γ) (rs := [.cell 4 32, .tmp 5, .tmp 6]) kf (.cons (.cell kf (retN (off := 0) (vs := [iv (0), iv (0), iv (0), iv (0), iv (0), iv (0), iv (0), .bool false, .slice none 0 0]) 9 (fun _ => kf) (holds_own (.there .here)) rfl (by exact ⟨rfl, rfl, rfl, rfl, rfl, rfl, rfl, rfl, rfl, trivial⟩))) (.cons (.tmp kf) (.cons (.tmp kf) .nil))) (fun w hw => (Sat.less (.take .here (.take .here (.drop .here (.drop .here (.drop .here .refl))))) (RowsA.none_mk (k := 1) (a := none) hw))) ?_
        exact ⟨none, 0, rfl, rfl⟩
       ·replace H := bifF H h16
        refine at_false (t := !(decide (y9_5 = p.src))) (x := C22 [1,1,1,1,0,1,0]) (y := C22 [1,1,1,1,0,1,1]) (o := .tmp 78) kf kf kf h16 ?_
        refine at_skip kf ?_
        refine at_then_normal ?_
        refine aq (x := C22 [1,1,1,1,1,0]) (y := C22 [1,1,1,1,1,1]) ?_
        refine ar (id := 11) 1 ?_
        refine sp 7 (.slice none 0 0) ?_
        refine ops_end ?_
        refine ae [(0, .pointer (some ⟨h, 0, none⟩)), (3, .pointer (some ⟨b0_0, 0, none⟩)), (4, .pointer (some ⟨b0_1, 0, none⟩)), (7, .slice none 0 0)] ?_
        refine at_then_normal ?_
        refine aq (x := C22 [1,1,1,1,1,1,0]) (y := C22 [1,1,1,1,1,1,1]) ?_
        refine aq (x := C22 [1,1,1,1,1,1,0,0]) (y := C22 [1,1,1,1,1,1,0,1]) ?_
        refine ar (id := 12) 2 ?_
        refine sp 80 (.pointer (some ⟨b0_0, 7, none⟩)) ?_
        refine sl 81 (.bool p.flag) (load1 (off := 7) (fun _ => kf) (holds_own (.there (.there (.there .here)))) kf) ?_
        refine ops_end ?_
        refine ae [(0, .pointer (some ⟨h, 0, none⟩)), (3, .pointer (some ⟨b0_0, 0, none⟩)), (4, .pointer (some ⟨b0_1, 0, none⟩)), (7, .slice none 0 0), (81, .bool p.flag)] ?_
        refine at_then_normal ?_
        rcases Bool.eq_false_or_eq_true (p.flag) with h17 | h17
        ·replace H := bifT H h17
         refine at_true (t := p.flag) (x := C22 [1,1,1,1,1,1,0,1,0]) (y := C22 [1,1,1,1,1,1,0,1,1]) (o := .tmp 81) kf kf kf h17 ?_
         refine ar (id := 13) 3 ?_
         refine sp 82 (.pointer (some ⟨b0_0, 8, none⟩)) ?_
         refine sl 83 (.slice pa (List.length p.data) pcap) (load1 (off := 8) (fun _ => kf) (holds_own (.there (.there (.there .here)))) kf) ?_
         refine sp 7 (.slice pa (List.length p.data) pcap) ?_
         refine ops_end ?_
         refine ae [(0, .pointer (some ⟨h, 0, none⟩)), (3, .pointer (some ⟨b0_0, 0, none⟩)), (4, .pointer (some ⟨b0_1, 0, none⟩)), (7, .slice pa (List.length p.data) pcap)] ?_
         refine at_then_normal ?_
         refine aq (x := C22 [1,1,1,1,1,1,1,0]) (y := C22 [1,1,1,1,1,1,1,1]) ?_
         refine aq (x := C22 [1,1,1,1,1,1,1,0,0]) (y := C22 [1,1,1,1,1,1,1,0,1]) ?_
         refine ar (id := 14) 10 ?_
         refine sp 84 (.pointer (some ⟨h, 0, none⟩)) ?_
         refine sp 85 (.pointer (some ⟨b0_0, 4, none⟩)) ?_
         refine sl 86 (iv p.line) (load1 (off := 4) (fun _ => kf) (holds_own (.there (.there (.there .here)))) kf) ?_
         refine sp 87 (.pointer (some ⟨b0_0, 6, none⟩)) ?_
         refine sl 88 (iv p.state) (load1 (off := 6) (fun _ => kf) (holds_own (.there (.there (.there .here)))) kf) ?_
         refine sp 89 (.pointer (some ⟨b0_0, 5, none⟩)) ?_
         refine sl 90 (iv p.ptr) (load1 (off := 5) (fun _ => kf) (holds_own (.there (.there (.there .here)))) kf) ?_
         refine sp 91 (.slice pa (List.length p.data) pcap) ?_
         refine At.conv (Γ' := (HomesA h hc) :: (ImmI x1_9_h.a7 hc.c.init) :: (Asn.own b0_1 (.cells #[iv (0), iv (0), iv (0), iv (0), iv (0), iv (0), iv (0), .bool false, .slice none 0 0] 32 (0, 0))) :: (Asn.own b0_0 (.cells #[iv p.kind, iv p.src, iv p.dst, iv p.id, iv p.line, iv p.ptr, iv p.state, .bool p.flag, .slice pa (List.length p.data) pcap] 32 (0, 0))) :: Γ) (fun w hw => HomesXA.shut (hw.pull .here)) ?_
         obtain ⟨y14_8, hy14_8, H⟩ := bindE H
         refine s_call 92 42 #[.pointer (some ⟨h, 0, none⟩), iv p.line, iv p.state, iv p.ptr, .slice pa (List.length p.data) pcap] kf kf (fun _ => kf) (SSetF_tr h hc p.line p.state p.ptr pa pcap p.data (Reads.conv (fun w hw => hw.less (.drop .here (.drop .here (.drop .here .refl)))) hrpa) y14_8 hy14_8) ?_
         rintro _ _ ⟨rfl, rfl⟩
         refine sp 8 (iv y14_8.1) ?_
         refine ops_end ?_
         refine ae [(0, .pointer (some ⟨h, 0, none⟩)), (3, .pointer (some ⟨b0_0, 0, none⟩)), (4, .pointer (some ⟨b0_1, 0, none⟩)), (8, iv y14_8.1)] ?_
         refine at_then_normal ?_
         refine aq (x := C22 [1,1,1,1,1,1,1,0,1,0]) (y := C22 [1,1,1,1,1,1,1,0,1,1]) ?_
         refine ar (id := 15) 2 ?_
         refine sp 93 (iv y14_8.1) ?_
         refine sp 94 (.bool (!(decide (y14_8.1 = (0 : Int))))) ?_
         refine ops_end ?_
         refine ae [(0, .pointer (some ⟨h, 0, none⟩)), (3, .pointer (some ⟨b0_0, 0, none⟩)), (4, .pointer (some ⟨b0_1, 0, none⟩)), (8, iv y14_8.1), (94, .bool (!(decide (y14_8.1 = (0 : Int)))))] ?_
         refine at_then_normal ?_
         rcases Bool.eq_false_or_eq_true (!(decide (y14_8.1 = (0 : Int)))) with h18 | h18
         ·replace H := bifT H h18
          refine at_true (t := !(decide (y14_8.1 = (0 : Int)))) (x := C22 [1,1,1,1,1,1,1,0,1,1,0]) (y := C22 [1,1,1,1,1,1,1,0,1,1,1]) (o := .tmp 94) kf kf kf h18 ?_
          refine aq (x := C22 [1,1,1,1,1,1,1,0,1,1,0,0]) (y := C22 [1,1,1,1,1,1,1,0,1,1,0,1]) ?_
          refine ar (id := 16) 5 ?_
          refine sp 95 (.agg #[iv (0), iv (0), iv (0), iv (0), iv (0), iv (0), iv (0), .bool false, .slice none 0 0]) ?_
          refine sp 96 (iv y14_8.1) ?_
          refine s_do kf kf (st_store (off := 0) (vs := [iv (0), iv (0), iv (0), iv (0), iv (0), iv (0), iv (0), .bool false, .slice none 0 0]) (c' := #[iv (0), iv (0), iv (0), iv (0), iv (0), iv (0), iv (0), .bool false, .slice none 0 0]) (fun _ => kf) (.there (.there .here)) kf kf kf) ?_
          rintro _ _ ⟨rfl, rfl⟩
          refine sp 5 (.bool false) ?_
          refine sp 6 (iv y14_8.1) ?_
          refine ops_end ?_
          refine ae [(4, .pointer (some ⟨b0_1, 0, none⟩)), (5, .bool false), (6, iv y14_8.1)] ?_
          refine at_then_normal ?_
          refine at_ret kf ?_
          refine at_then_ret ?_
          obtain rfl := someE H
          refine at_backR [.agg #[iv (0), iv (0), iv (0), iv (0), iv (0), iv (0), iv (0), .bool false, .slice none 0 0], .bool false, iv y14_8.1] ((IntsA none 0 ([] : List Int)) :: (HomesA h y14_8.2) :: Γ) (rs := [.cell 4 32, .tmp 5, .tmp 6]) kf (.cons (.cell kf (retN (off := 0) (vs := [iv (0), iv (0), iv (0), iv (0), iv (0), iv (0), iv (0), .bool false, .slice none 0 0]) 9 (fun _ => kf) (holds_own .here) rfl (by exact ⟨rfl, rfl, rfl, rfl, rfl, rfl, rfl, rfl, rfl, trivial⟩))) (.cons (.tmp kf) (.cons (.tmp kf) .nil))) (fun w hw => (Sat.less (.take .here (.take (.there .here) (.drop .here (.drop .here (.drop .here .refl))))) (RowsA.none_mk (k := 1) (a := none) hw))) ?_
          exact ⟨none, 0, rfl, rfl⟩
         ·replace H := bifF H h18
          refine at_false (t := !(decide (y14_8.1 = (0 : Int)))) (x := C22 [1,1,1,1,1,1,1,0,1,1,0]) (y := C22 [1,1,1,1,1,1,1,0,1,1,1]) (o := .tmp 94) kf kf kf h18 ?_
          refine at_skip kf ?_
          refine at_then_normal ?_
          refine aq (x := C22 [1,1,1,1,1,1,1,1,0]) (y := C22 [1,1,1,1,1,1,1,1,1]) ?_
          refine at_region_draw (id := 17) kf kf ?_
          refine dp 0 97 (.pointer (some ⟨h, 0, none⟩)) ?_
          refine dp 1 98 (.pointer (some ⟨h, 0, none⟩)) ?_
          refine dp 2 99 (.pointer (some ⟨h, 10, none⟩)) ?_
          refine dp 3 100 (.pointer (some ⟨b0_0, 4, none⟩)) ?_
          refine dl 4 101 (iv p.line) (load1 (off := 4) (fun _ => kf) (holds_own (.there (.there (.there .here)))) kf) ?_
          refine dp 5 102 (.pointer (some ⟨b0_0, 1, none⟩)) ?_
          refine dl 6 103 (iv p.src) (load1 (off := 1) (fun _ => kf) (holds_own (.there (.there (.there .here)))) kf) ?_
          obtain ⟨y17_7, hy17_7, H⟩ := bindE H
          refine d_call 7 104 [2, 4, 6, 1, 3, 5, 0] [] [] 43 #[.pointer (some ⟨h, 10, none⟩), iv p.line, iv p.src] kf kf kf (fun _ => kf) (QReleaseF_tr h y14_8.2 p.line p.src y17_7 hy17_7) ?_
          rintro _ _ ⟨rfl, rfl⟩
          refine ⟨stable_nil, ?_⟩
          refine draw_end kf ?_
          refine ae [(0, .pointer (some ⟨h, 0, none⟩)), (3, .pointer (some ⟨b0_0, 0, none⟩)), (4, .pointer (some ⟨b0_1, 0, none⟩))] ?_
          refine at_then_normal ?_
          refine aq (x := C22 [1,1,1,1,1,1,1,1,1,0]) (y := C22 [1,1,1,1,1,1,1,1,1,1]) ?_
          refine at_region_draw (id := 18) kf kf ?_
          refine dp 0 105 (.pointer (some ⟨h, 0, none⟩)) ?_
          refine dp 1 106 (.pointer (some ⟨h, 0, none⟩)) ?_
          refine dp 2 107 (.pointer (some ⟨h, 8, none⟩)) ?_
          refine HomesA.tox_draw .here ?_
          intro x18_3_h
          refine HomesXA.open_draw .here ?_
          refine dl 3 108 (iv y17_7.2.node) (load1 (off := 8) (fun _ => kf) (holds_own .here) kf) ?_
          refine dp 4 109 (.pointer (some ⟨b0_0, 1, none⟩)) ?_
          refine dl 5 110 (iv p.src) (load1 (off := 1) (fun _ => kf) (holds_own (.there (.there (.there (.there (.there (.there (.there .here)))))))) kf) ?_
          refine dp 6 111 (.pointer (some ⟨b0_0, 3, none⟩)) ?_
          refine dl 7 112 (iv p.id) (load1 (off := 3) (fun _ => kf) (holds_own (.there (.there (.there (.there (.there (.there (.there .here)))))))) kf) ?_
          refine dp 8 113 (.pointer (some ⟨b0_0, 4, none⟩)) ?_
          refine dl 9 114 (iv p.line) (load1 (off := 4) (fun _ => kf) (holds_own (.there (.there (.there (.there (.there (.there (.there .here)))))))) kf) ?_
          refine dp 10 115 (.agg #[iv (8), iv y17_7.2.node, iv p.src, iv p.id, iv p.line, iv (0), iv (0), .bool false, .slice none 0 0]) ?_
          refine d_do 11 [10, 0, 1, 2, 3, 4, 5, 6, 7, 8, 9] [] [] kf kf kf (st_store (off := 0) (vs := [iv (8), iv y17_7.2.node, iv p.src, iv p.id, iv p.line, iv (0), iv (0), .bool false, .slice none 0 0]) (c' := #[iv (8), iv y17_7.2.node, iv p.src, iv p.id, iv p.line, iv (0), iv (0), .bool false, .slice none 0 0]) (fun _ => kf) (.there (.there (.there (.there (.there (.there .here)))))) kf kf kf) ?_
          rintro _ _ ⟨rfl, rfl⟩
          refine ⟨stable_nil, ?_⟩
          refine dp 12 5 (.bool true) ?_
          refine dp 13 6 (iv (0)) ?_
          refine draw_end kf ?_
          refine ae [(4, .pointer (some ⟨b0_1, 0, none⟩)), (5, .bool true), (6, iv (0))] ?_
          refine at_then_normal ?_
          refine at_ret kf ?_
          refine At.conv (Γ' := (HomesXA h x18_3_h y17_7.2) :: (ImmI x18_3_h.a7 y17_7.2.c.init) :: (Asn.own b0_1 (.cells #[iv (8), iv y17_7.2.node, iv p.src, iv p.id, iv p.line, iv (0), iv (0), .bool false, .slice none 0 0] 32 (0, 0))) :: (ImmI x1_9_h.a7 hc.c.init) :: (Asn.own b0_0 (.cells #[iv p.kind, iv p.src, iv p.dst, iv p.id, iv p.line, iv p.ptr, iv p.state, .bool p.flag, .slice pa (List.length p.data) pcap] 32 (0, 0))) :: Γ) (fun w hw => HomesXA.close (x := x18_3_h) (t := y17_7.2) (Sat.less (.take (.there (.there (.there .here))) (.take .here (.take (.there (.there .here)) (.take (.there (.there .here)) (.take (.there (.there .here)) (.take .here (.take .here (.take .here (.take .here .refl))))))))) (ImmR.dup (Sat.less (.take (.there (.there .here)) (.take .here (.take .here (.take .here (.take .here (.take .here (.take .here (.take .here .refl)))))))) hw)))) ?_
          refine At.conv (Γ' := (HomesA h y17_7.2) :: (ImmI x18_3_h.a7 y17_7.2.c.init) :: (Asn.own b0_1 (.cells #[iv (8), iv y17_7.2.node, iv p.src, iv p.id, iv p.line, iv (0), iv (0), .bool false, .slice none 0 0] 32 (0, 0))) :: (ImmI x1_9_h.a7 hc.c.init) :: (Asn.own b0_0 (.cells #[iv p.kind, iv p.src, iv p.dst, iv p.id, iv p.line, iv p.ptr, iv p.state, .bool p.flag, .slice pa (List.length p.data) pcap] 32 (0, 0))) :: Γ) (fun w hw => HomesXA.shut (hw.pull .here)) ?_
          obtain rfl := someE H
          refine at_backR [.agg #[iv (8), iv y17_7.2.node, iv p.src, iv p.id, iv p.line, iv (0), iv (0), .bool false, .slice none 0 0], .bool true, iv (0)] ((IntsA none 0 ([] : List Int)) :: (HomesA h y17_7.2) :: Γ) (rs := [.cell 4 32, .tmp 5, .tmp 6]) kf (.cons (.cell kf (retN (off := 0) (vs := [iv (8), iv y17_7.2.node, iv p.src, iv p.id, iv p.line, iv (0), iv (0), .bool false, .slice none 0 0]) 9 (fun _ => kf) (holds_own (.there (.there .here))) rfl (by exact ⟨rfl, rfl, rfl, rfl, rfl, rfl, rfl, rfl, rfl, trivial⟩))) (.cons (.tmp kf) (.cons (.tmp kf) .nil))) (fun w hw => (Sat.less (.take .here (.take .here (.drop .here (.drop .here (.drop .here (.drop .here .refl)))))) (RowsA.none_mk (k := 1) (a := none) hw))) ?_
          exact ⟨none, 0, rfl, rfl⟩
        ·replace H := bifF H h17
         refine at_false (t := p.flag) (x := C22 [1,1,1,1,1,1,0,1,0]) (y := C22 [1,1,1,1,1,1,0,1,1]) (o := .tmp 81) kf kf kf h17 ?_
         refine at_skip kf ?_
         refine at_then_normal ?_
         refine aq (x := C22 [1,1,1,1,1,1,1,0]) (y := C22 [1,1,1,1,1,1,1,1]) ?_
         refine aq (x := C22 [1,1,1,1,1,1,1,0,0]) (y := C22 [1,1,1,1,1,1,1,0,1]) ?_
         refine ar (id := 14) 10 ?_
         refine sp 84 (.pointer (some ⟨h, 0, none⟩)) ?_
         refine sp 85 (.pointer (some ⟨b0_0, 4, none⟩)) ?_
         refine sl 86 (iv p.line) (load1 (off := 4) (fun _ => kf) (holds_own (.there (.there (.there .here)))) kf) ?_
         refine sp 87 (.pointer (some ⟨b0_0, 6, none⟩)) ?_
         refine sl 88 (iv p.state) (load1 (off := 6) (fun _ => kf) (holds_own (.there (.there (.there .here)))) kf) ?_
         refine sp 89 (.pointer (some ⟨b0_0, 5, none⟩)) ?_
         refine sl 90 (iv p.ptr) (load1 (off := 5) (fun _ => kf) (holds_own (.there (.there (.there .here)))) kf) ?_
         refine sp 91 (.slice none 0 0) ?_
         refine At.conv (Γ' := (HomesA h hc) :: (ImmI x1_9_h.a7 hc.c.init) :: (Asn.own b0_1 (.cells #[iv (0), iv (0), iv (0), iv (0), iv (0), iv (0), iv (0), .bool false, .slice none 0 0] 32 (0, 0))) :: (Asn.own b0_0 (.cells #[iv p.kind, iv p.src, iv p.dst, iv p.id, iv p.line, iv p.ptr, iv p.state, .bool p.flag, .slice pa (List.length p.data) pcap] 32 (0, 0))) :: Γ) (fun w hw => HomesXA.shut (hw.pull .here)) ?_
         obtain ⟨y14_8, hy14_8, H⟩ := bindE H
         refine s_call 92 42 #[.pointer (some ⟨h, 0, none⟩), iv p.line, iv p.state, iv p.ptr, .slice none 0 0] kf kf (fun _ => kf) (SSetF_tr h hc p.line p.state p.ptr none 0 ([] : List Int) Reads.nil y14_8 hy14_8) ?_
         rintro _ _ ⟨rfl, rfl⟩
         refine sp 8 (iv y14_8.1) ?_
         refine ops_end ?_
         refine ae [(0, .pointer (some ⟨h, 0, none⟩)), (3, .pointer (some ⟨b0_0, 0, none⟩)), (4, .pointer (some ⟨b0_1, 0, none⟩)), (8, iv y14_8.1)] ?_
         refine at_then_normal ?_
         refine aq (x := C22 [1,1,1,1,1,1,1,0,1,0]) (y := C22 [1,1,1,1,1,1,1,0,1,1]) ?_
         refine ar (id := 15) 2 ?_
         refine sp 93 (iv y14_8.1) ?_
         refine sp 94 (.bool (!(decide (y14_8.1 = (0 : Int))))) ?_
         refine ops_end ?_
         refine ae [(0, .pointer (some ⟨h, 0, none⟩)), (3, .pointer (some ⟨b0_0, 0, none⟩)), (4, .pointer (some ⟨b0_1, 0, none⟩)), (8, iv y14_8.1), (94, .bool (!(decide (y14_8.1 = (0 : Int)))))] ?_
         refine at_then_normal ?_
         rcases Bool.eq_false_or_eq_true (!(decide (y14_8.1 = (0 : Int)))) with h19 | h19
         ·replace H := bifT H h19
          refine at_true (t := !(decide (y14_8.1 = (0 : Int)))) (x := C22 [1,1,1,1,1,1,1,0,1,1,0]) (y := C22 [1,1,1,1,1,1,1,0,1,1,1]) (o := .tmp 94) kf kf kf h19 ?_
          refine aq (x := C22 [1,1,1,1,1,1,1,0,1,1,0,0]) (y := C22 [1,1,1,1,1,1,1,0,1,1,0,1]) ?_
          refine ar (id := 16) 5 ?_
          refine sp 95 (.agg #[iv (0), iv (0), iv (0), iv (0), iv (0), iv (0), iv (0), .bool false, .slice none 0 0]) ?_
          refine sp 96 (iv y14_8.1) ?_
          refine s_do kf kf (st_store (off := 0) (vs := [iv (0), iv (0), iv (0), iv (0), iv (0), iv (0), iv (0), .bool false, .slice none 0 0]) (c' := #[iv (0), iv (0), iv (0), iv (0), iv (0), iv (0), iv (0), .bool false, .slice none 0 0]) (fun _ => kf) (.there (.there .here)) kf kf kf) ?_
          rintro _ _ ⟨rfl, rfl⟩
          refine sp 5 (.bool false) ?_
          refine sp 6 (iv y14_8.1) ?_
          refine ops_end ?_
          refine ae [(4, .pointer (some ⟨b0_1, 0, none⟩)), (5, .bool false), (6, iv y14_8.1)] ?_
          refine at_then_normal ?_
          refine at_ret kf ?_
          refine at_then_ret ?_
          obtain rfl := someE H
          refine at_backR [.agg #[iv (0), iv (0), iv (0), iv (0), iv (0), iv (0), iv (0), .bool false, .slice none 0 0], .bool false, iv y14_8.1] ((IntsA none 0 ([] : List Int)) :: (HomesA h y14_8.2) :: Γ) (rs := [.cell 4 32, .tmp 5, .tmp 6]) kf (.cons (.cell kf (retN (off := 0) (vs := [iv (0), iv (0), iv (0), iv (0), iv (0), iv (0), iv (0), .bool false, .slice none 0 0]) 9 (fun _ => kf) (holds_own .here) rfl (by exact ⟨rfl, rfl, rfl, rfl, rfl, rfl, rfl, rfl, rfl, trivial⟩))) (.cons (.tmp kf) (.cons (.tmp kf) .nil))) (fun w hw => (Sat.less (.take .here (.take (.there .here) (.drop .here (.drop .here (.drop .here .refl))))) (RowsA.none_mk (k := 1) (a := none) hw))) ?_
          exact ⟨none, 0, rfl, rfl⟩
         ·replace H := bifF H h19
          refine at_false (t := !(decide (y14_8.1 = (0 : Int)))) (x := C22 [1,1,1,1,1,1,1,0,1,1,0]) (y := C22 [1,1,1,1,1,1,1,0,1,1,1]) (o := .tmp 94) kf kf kf h19 ?_
          refine at_skip kf ?_
          refine at_then_normal ?_
          refine aq (x := C22 [1,1,1,1,1,1,1,1,0]) (y := C22 [1,1,1,1,1,1,1,1,1]) ?_
          refine at_region_draw (id := 17) kf kf ?_
          refine dp 0 97 (.pointer (some ⟨h, 0, none⟩)) ?_
          refine dp 1 98 (.pointer (some ⟨h, 0, none⟩)) ?_
          refine dp 2 99 (.pointer (some ⟨h, 10, none⟩)) ?_
          refine dp 3 100 (.pointer (some ⟨b0_0, 4, none⟩)) ?_
          refine dl 4 101 (iv p.line) (load1 (off := 4) (fun _ => kf) (holds_own (.there (.there (.there .here)))) kf) ?_
          refine dp 5 102 (.pointer (some ⟨b0_0, 1, none⟩)) ?_
          refine dl 6 103 (iv p.src) (load1 (off := 1) (fun _ => kf) (holds_own (.there (.there (.there .here)))) kf) ?_
          obtain ⟨y17_7, hy17_7, H⟩ := bindE H
          refine d_call 7 104 [2, 4, 6, 1, 3, 5, 0] [] [] 43 #[.pointer (some ⟨h, 10, none⟩), iv p.line, iv p.src] kf kf kf (fun _ => kf) (QReleaseF_tr h y14_8.2 p.line p.src y17_7 hy17_7) ?_
          rintro _ _ ⟨rfl, rfl⟩
          refine ⟨stable_nil, ?_⟩
          refine draw_end kf ?_
          refine ae [(0, .pointer (some ⟨h, 0, none⟩)), (3, .pointer (some ⟨b0_0, 0, none⟩)), (4, .pointer (some ⟨b0_1, 0, none⟩))] ?_
          refine at_then_normal ?_
          refine aq (x := C22 [1,1,1,1,1,1,1,1,1,0]) (y := C22 [1,1,1,1,1,1,1,1,1,1]) ?_
          refine at_region_draw (id := 18) kf kf ?_
          refine dp 0 105 (.pointer (some ⟨h, 0, none⟩)) ?_
          refine dp 1 106 (.pointer (some ⟨h, 0, none⟩)) ?_
          refine dp 2 107 (.pointer (some ⟨h, 8, none⟩)) ?_
          refine HomesA.tox_draw .here ?_
          intro x18_3_h
          refine HomesXA.open_draw .here ?_
          refine dl 3 108 (iv y17_7.2.node) (load1 (off := 8) (fun _ => kf) (holds_own .here) kf) ?_
          refine dp 4 109 (.pointer (some ⟨b0_0, 1, none⟩)) ?_
          refine dl 5 110 (iv p.src) (load1 (off := 1) (fun _ => kf) (holds_own (.there (.there (.there (.there (.there (.there (.there .here)))))))) kf) ?_
          refine dp 6 111 (.pointer (some ⟨b0_0, 3, none⟩)) ?_
          refine dl 7 112 (iv p.id) (load1 (off := 3) (fun _ => kf) (holds_own (.there (.there (.there (.there (.there (.there (.there .here)))))))) kf) ?_
          refine dp 8 113 (.pointer (some ⟨b0_0, 4, none⟩)) ?_
          refine dl 9 114 (iv p.line) (load1 (off := 4) (fun _ => kf) (holds_own (.there (.there (.there (.there (.there (.there (.there .here)))))))) kf) ?_
          refine dp 10 115 (.agg #[iv (8), iv y17_7.2.node, iv p.src, iv p.id, iv p.line, iv (0), iv (0), .bool false, .slice none 0 0]) ?_
          refine d_do 11 [10, 0, 1, 2, 3, 4, 5, 6, 7, 8, 9] [] [] kf kf kf (st_store (off := 0) (vs := [iv (8), iv y17_7.2.node, iv p.src, iv p.id, iv p.line, iv (0), iv (0), .bool false, .slice none 0 0]) (c' := #[iv (8), iv y17_7.2.node, iv p.src, iv p.id, iv p.line, iv (0), iv (0), .bool false, .slice none 0 0]) (fun _ => kf) (.there (.there (.there (.there (.there (.there .here)))))) kf kf kf) ?_
          rintro _ _ ⟨rfl, rfl⟩
          refine ⟨stable_nil, ?_⟩
          refine dp 12 5 (.bool true) ?_
          refine dp 13 6 (iv (0)) ?_
          refine draw_end kf ?_
          refine ae [(4, .pointer (some ⟨b0_1, 0, none⟩)), (5, .bool true), (6, iv (0))] ?_
          refine at_then_normal ?_
          refine at_ret kf ?_
          refine At.conv (Γ' := (HomesXA h x18_3_h y17_7.2) :: (ImmI x18_3_h.a7 y17_7.2.c.init) :: (Asn.own b0_1 (.cells #[iv (8), iv y17_7.2.node, iv p.src, iv p.id, iv p.line, iv (0), iv (0), .bool false, .slice none 0 0] 32 (0, 0))) :: (ImmI x1_9_h.a7 hc.c.init) :: (Asn.own b0_0 (.cells #[iv p.kind, iv p.src, iv p.dst, iv p.id, iv p.line, iv p.ptr, iv p.state, .bool p.flag, .slice pa (List.length p.data) pcap] 32 (0, 0))) :: Γ) (fun w hw => HomesXA.close (x := x18_3_h) (t := y17_7.2) (Sat.less (.take (.there (.there (.there .here))) (.take .here (.take (.there (.there .here)) (.take (.there (.there .here)) (.take (.there (.there .here)) (.take .here (.take .here (.take .here (.take .here .refl))))))))) (ImmR.dup (Sat.less (.take (.there (.there .here)) (.take .here (.take .here (.take .here (.take .here (.take .here (.take .here (.take .here .refl)))))))) hw)))) ?_
          refine At.conv (Γ' := (HomesA h y17_7.2) :: (ImmI x18_3_h.a7 y17_7.2.c.init) :: (Asn.own b0_1 (.cells #[iv (8), iv y17_7.2.node, iv p.src, iv p.id, iv p.line, iv (0), iv (0), .bool false, .slice none 0 0] 32 (0, 0))) :: (ImmI x1_9_h.a7 hc.c.init) :: (Asn.own b0_0 (.cells #[iv p.kind, iv p.src, iv p.dst, iv p.id, iv p.line, iv p.ptr, iv p.state, .bool p.flag, .slice pa (List.length p.data) pcap] 32 (0, 0))) :: Γ) (fun w hw => HomesXA.shut (hw.pull .here)) ?_
          obtain rfl := someE H
          refine at_backR [.agg #[iv (8), iv y17_7.2.node, iv p.src, iv p.id, iv p.line, iv (0), iv (0), .bool false, .slice none 0 0], .bool true, iv (0)] ((IntsA none 0 ([] : List Int)) :: (HomesA h y17_7.2) :: Γ) (rs := [.cell 4 32, .tmp 5, .tmp 6]) kf (.cons (.cell kf (retN (off := 0) (vs := [iv (8), iv y17_7.2.node, iv p.src, iv p.id, iv p.line, iv (0), iv (0), .bool false, .slice none 0 0]) 9 (fun _ => kf) (holds_own (.there (.there .here))) rfl (by exact ⟨rfl, rfl, rfl, rfl, rfl, rfl, rfl, rfl, rfl, trivial⟩))) (.cons (.tmp kf) (.cons (.tmp kf) .nil))) (fun w hw => (Sat.less (.take .here (.take .here (.drop .here (.drop .here (.drop .here (.drop .here .refl)))))) (RowsA.none_mk (k := 1) (a := none) hw))) ?_
          exact ⟨none, 0, rfl, rfl⟩
def sgrantS (hc : HomesS) : Option (PktS × Bool × HomesS) :=
 (qreadyS hc).bind fun y1_3 => (bif decide ((((List.length y1_3) : Nat) : Int) = (0 : Int)) then some ((⟨0, 0, 0, 0, 0, 0, 0, false, ([] : List Int)⟩ : PktS), false, hc) else chk (0 ≤ (0 : Int) ∧ (0 : Int) < ((y1_3.length : Nat) : Int)) ((qnextS hc (nth y1_3 (0 : Int))).bind fun y4_6 => chk (0 ≤ (0 : Int) ∧ (0 : Int) < ((y1_3.length : Nat) : Int)) ((sgrantedS y4_6.2.2.2 (nth y1_3 (0 : Int)) y4_6.1 y4_6.2.1).bind fun y5_6 => some (y5_6, true, y4_6.2.2.2))))
noncomputable def C17 (p : List Nat) : Code := codeAt (bodyOf Try.f17) p
set_option maxRecDepth 100000 in
set_option maxHeartbeats 8000000 in
theorem SGrantF_tr {W0 : World} {Γ : List Asn} (h : Nat) (hc : HomesS)  (y : PktS × Bool × HomesS) (H : sgrantS hc = some y) : Tr Try.prog 17 #[.pointer (some ⟨h, 0, none⟩)] W0 ((HomesA h hc) :: Γ) (fun r Δ => ∃ (a0_0 : Option Addr) (c0_0 : Nat), r = .tuple #[.agg #[iv y.1.kind, iv y.1.src, iv y.1.dst, iv y.1.id, iv y.1.line, iv y.1.ptr, iv y.1.state, .bool y.1.flag, .slice a0_0 (List.length y.1.data) c0_0], .bool y.2.1] ∧ Δ = (IntsA a0_0 c0_0 y.1.data) :: (HomesA h y.2.2) :: Γ) := by
 unfold sgrantS at H
 refine Tr.enter (fn := Try.f17) (c := C17 []) (args := [.pointer (some ⟨h, 0, none⟩)]) 34 Try.func17 kf kf ?_
 refine ae [(0, .pointer (some ⟨h, 0, none⟩))] ?_
 refine aq (x := C17 [0]) (y := C17 [1]) ?_
 refine ar (id := 0) 2 ?_
 refine s_step 2 kf kf (st_new (T := 32) (cells := #[iv (0), iv (0), iv (0), iv (0), iv (0), iv (0), iv (0), .bool false, .slice none 0 0]) (fun a => .pointer (some a)) (fun _ => kf)) ?_
 rintro _ _ ⟨b0_0, rfl, rfl⟩
 refine sp 3 (.bool false) ?_
 refine ops_end ?_
 refine ae [(0, .pointer (some ⟨h, 0, none⟩)), (2, .pointer (some ⟨b0_0, 0, none⟩))] ?_
 refine at_then_normal ?_
 refine aq (x := C17 [1,0]) (y := C17 [1,1]) ?_
 refine ar (id := 1) 5 ?_
 refine sp 8 (.pointer (some ⟨h, 0, none⟩)) ?_
 refine sp 9 (.pointer (some ⟨h, 0, none⟩)) ?_
 refine sp 10 (.pointer (some ⟨h, 10, none⟩)) ?_
 refine HomesA.tox (.there .here) ?_
 intro x1_3_h
 obtain ⟨y1_3, hy1_3, H⟩ := bindE H
 refine s_call 11 35 #[.pointer (some ⟨h, 10, none⟩)] kf kf (fun _ => kf) (QReadyF_tr h x1_3_h hc y1_3 hy1_3) ?_
 rintro _ _ ⟨a1_3_00, c1_3_00, rfl, rfl⟩
 refine sp 4 (.slice a1_3_00 (List.length y1_3) c1_3_00) ?_
 refine ops_end ?_
 refine ae [(0, .pointer (some ⟨h, 0, none⟩)), (2, .pointer (some ⟨b0_0, 0, none⟩)), (4, .slice a1_3_00 (List.length y1_3) c1_3_00)] ?_
 refine at_then_normal ?_
 refine At.conv (Γ' := (HomesA h hc) :: (IntsA a1_3_00 c1_3_00 y1_3) :: (Asn.own b0_0 (.cells #[iv (0), iv (0), iv (0), iv (0), iv (0), iv (0), iv (0), .bool false, .slice none 0 0] 32 (0, 0))) :: Γ) (fun w hw => HomesXA.shut (hw.pull (.there .here))) ?_
 refine aq (x := C17 [1,1,0]) (y := C17 [1,1,1]) ?_
 refine aq (x := C17 [1,1,0,0]) (y := C17 [1,1,0,1]) ?_
 refine ar (id := 2) 3 ?_
 refine sp 12 (.slice a1_3_00 (List.length y1_3) c1_3_00) ?_
 refine sp 13 (iv (((List.length y1_3) : Nat) : Int)) ?_
 refine sp 14 (.bool (decide ((((List.length y1_3) : Nat) : Int) = (0 : Int)))) ?_
 refine ops_end ?_
 refine ae [(0, .pointer (some ⟨h, 0, none⟩)), (2, .pointer (some ⟨b0_0, 0, none⟩)), (4, .slice a1_3_00 (List.length y1_3) c1_3_00), (14, .bool (decide ((((List.length y1_3) : Nat) : Int) = (0 : Int))))] ?_
 refine at_then_normal ?_
 rcases Bool.eq_false_or_eq_true (decide ((((List.length y1_3) : Nat) : Int) = (0 : Int))) with h1 | h1
 ·replace H := bifT H h1
  refine at_true (t := decide ((((List.length y1_3) : Nat) : Int) = (0 : Int))) (x := C17 [1,1,0,1,0]) (y := C17 [1,1,0,1,1]) (o := .tmp 14) kf kf kf h1 ?_
  refine aq (x := C17 [1,1,0,1,0,0]) (y := C17 [1,1,0,1,0,1]) ?_
  refine ar (id := 3) 3 ?_
  refine sp 15 (.agg #[iv (0), iv (0), iv (0), iv (0), iv (0), iv (0), iv (0), .bool false, .slice none 0 0]) ?_
  refine s_do kf kf (st_store (off := 0) (vs := [iv (0), iv (0), iv (0), iv (0), iv (0), iv (0), iv (0), .bool false, .slice none 0 0]) (c' := #[iv (0), iv (0), iv (0), iv (0), iv (0), iv (0), iv (0), .bool false, .slice none 0 0]) (fun _ => kf) (.there (.there .here)) kf kf kf) ?_
  rintro _ _ ⟨rfl, rfl⟩
  refine sp 3 (.bool false) ?_
  refine ops_end ?_
  refine ae [(2, .pointer (some ⟨b0_0, 0, none⟩)), (3, .bool false)] ?_
  refine at_then_normal ?_
  refine at_ret kf ?_
  refine at_then_ret ?_
  obtain rfl := someE H
  refine at_backR [.agg #[iv (0), iv (0), iv (0), iv (0), iv (0), iv (0), iv (0), .bool false, .slice none 0 0], .bool false] ((IntsA none 0 ([] : List Int)) :: (HomesA h hc) :: Γ) (rs := [.cell 2 32, .tmp 3]) kf (.cons (.cell kf (retN (off := 0) (vs := [iv (0), iv (0), iv (0), iv (0), iv (0), iv (0), iv (0), .bool false, .slice none 0 0]) 9 (fun _ => kf) (holds_own .here) rfl (by exact ⟨rfl, rfl, rfl, rfl, rfl, rfl, rfl, rfl, rfl, trivial⟩))) (.cons (.tmp kf) .nil)) (fun w hw => (Sat.less (.take .here (.take (.there .here) (.drop .here (.drop .here .refl)))) (RowsA.none_mk (k := 1) (a := none) hw))) ?_
  exact ⟨none, 0, rfl, rfl⟩
 ·replace H := bifF H h1
  refine at_false (t := decide ((((List.length y1_3) : Nat) : Int) = (0 : Int))) (x := C17 [1,1,0,1,0]) (y := C17 [1,1,0,1,1]) (o := .tmp 14) kf kf kf h1 ?_
  refine at_skip kf ?_
  refine at_then_normal ?_
  refine aq (x := C17 [1,1,1,0]) (y := C17 [1,1,1,1]) ?_
  refine at_region_draw (id := 4) kf kf ?_
  refine dp 0 17 (.pointer (some ⟨h, 0, none⟩)) ?_
  refine dp 1 18 (.pointer (some ⟨h, 0, none⟩)) ?_
  refine dp 2 19 (.pointer (some ⟨h, 10, none⟩)) ?_
  refine dp 3 20 (.slice a1_3_00 (List.length y1_3) c1_3_00) ?_
  obtain ⟨hc4_4_0, H⟩ := chkE H
  refine rows_at_draw (.there .here) (by have := hc4_4_0; simp only [ints_length]; omega) ?_
  intro bb1 oo1 ha1
  refine d_pure 4 21 (.pointer (some ⟨bb1, oo1 + (((0 : Int)).toNat * 1 + 0), none⟩)) kf kf kf (index_at (t := 22) (sz := 1) (E := 3) (a := a1_3_00) (m := (List.length y1_3)) (c := c1_3_00) (b := bb1) (off := oo1) (i := ((0 : Int)).toNat) (tinfo 3) (fun _ => kf) kf kf kf ha1 (idx_cast hc4_4_0) (idx_nat hc4_4_0) rfl) ?_
  refine dl 5 22 (iv (nth y1_3 (0 : Int))) (load1_at (off := oo1 + (((0 : Int)).toNat * 1 + 0)) (v := iv (nth y1_3 (0 : Int))) (fun _ => kf) rfl (reads_cell (k := 1) (RowsA.reads (k := 1) (.there .here)) (ints_rows _) ha1 (nth_row hc4_4_0) (show [(iv (nth y1_3 (0 : Int)) : Value)][0]? = some _ from rfl))) ?_
  obtain ⟨y4_6, hy4_6, H⟩ := bindE H
  refine d_call 6 23 [2, 5, 1, 4, 0, 3] [] [] 36 #[.pointer (some ⟨h, 10, none⟩), iv (nth y1_3 (0 : Int))] kf kf kf (fun _ => kf) (QNextF_tr h hc (nth y1_3 (0 : Int)) y4_6 hy4_6) ?_
  rintro _ _ ⟨rfl, rfl⟩
  refine ⟨stable_nil, ?_⟩
  refine dp 7 16 (.tuple #[iv y4_6.1, iv y4_6.2.1, .bool y4_6.2.2.1]) ?_
  refine dp 8 24 (iv y4_6.1) ?_
  refine dp 9 25 (iv y4_6.2.1) ?_
  refine dp 10 26 (.bool y4_6.2.2.1) ?_
  refine dp 11 5 (iv y4_6.1) ?_
  refine dp 12 6 (iv y4_6.2.1) ?_
  refine dp 13 7 (.bool y4_6.2.2.1) ?_
  refine draw_end kf ?_
  refine ae [(0, .pointer (some ⟨h, 0, none⟩)), (2, .pointer (some ⟨b0_0, 0, none⟩)), (4, .slice a1_3_00 (List.length y1_3) c1_3_00), (5, iv y4_6.1), (6, iv y4_6.2.1)] ?_
  refine at_then_normal ?_
  refine aq (x := C17 [1,1,1,1,0]) (y := C17 [1,1,1,1,1]) ?_
  refine ar (id := 5) 9 ?_
  refine sp 27 (.pointer (some ⟨h, 0, none⟩)) ?_
  refine sp 28 (.slice a1_3_00 (List.length y1_3) c1_3_00) ?_
  obtain ⟨hc5_2_0, H⟩ := chkE H
  refine rows_at (.there .here) (by have := hc5_2_0; simp only [ints_length]; omega) ?_
  intro bb2 oo2 ha2
  refine sr 29 (.pointer (some ⟨bb2, oo2 + (((0 : Int)).toNat * 1 + 0), none⟩)) (index_at (t := 22) (sz := 1) (E := 3) (a := a1_3_00) (m := (List.length y1_3)) (c := c1_3_00) (b := bb2) (off := oo2) (i := ((0 : Int)).toNat) (tinfo 3) (fun _ => kf) kf kf kf ha2 (idx_cast hc5_2_0) (idx_nat hc5_2_0) rfl) ?_
  refine sl 30 (iv (nth y1_3 (0 : Int))) (load1_at (off := oo2 + (((0 : Int)).toNat * 1 + 0)) (v := iv (nth y1_3 (0 : Int))) (fun _ => kf) rfl (reads_cell (k := 1) (RowsA.reads (k := 1) (.there .here)) (ints_rows _) ha2 (nth_row hc5_2_0) (show [(iv (nth y1_3 (0 : Int)) : Value)][0]? = some _ from rfl))) ?_
  refine sp 31 (iv y4_6.1) ?_
  refine sp 32 (iv y4_6.2.1) ?_
  refine HomesA.tox .here ?_
  intro x5_6_h
  obtain ⟨y5_6, hy5_6, H⟩ := bindE H
  refine s_call 33 37 #[.pointer (some ⟨h, 0, none⟩), iv (nth y1_3 (0 : Int)), iv y4_6.1, iv y4_6.2.1] kf kf (fun _ => kf) (SGrantedF_tr h x5_6_h y4_6.2.2.2 (nth y1_3 (0 : Int)) y4_6.1 y4_6.2.1 y5_6 hy5_6) ?_
  rintro _ _ ⟨a5_6_00, c5_6_00, rfl, rfl⟩
  refine s_do kf kf (st_store (off := 0) (vs := [iv y5_6.kind, iv y5_6.src, iv y5_6.dst, iv y5_6.id, iv y5_6.line, iv y5_6.ptr, iv y5_6.state, .bool y5_6.flag, .slice a5_6_00 (List.length y5_6.data) c5_6_00]) (c' := #[iv y5_6.kind, iv y5_6.src, iv y5_6.dst, iv y5_6.id, iv y5_6.line, iv y5_6.ptr, iv y5_6.state, .bool y5_6.flag, .slice a5_6_00 (List.length y5_6.data) c5_6_00]) (fun _ => kf) (.there (.there (.there .here))) kf kf kf) ?_
  rintro _ _ ⟨rfl, rfl⟩
  refine sp 3 (.bool true) ?_
  refine ops_end ?_
  refine ae [(2, .pointer (some ⟨b0_0, 0, none⟩)), (3, .bool true)] ?_
  refine at_then_normal ?_
  refine at_ret kf ?_
  refine At.conv (Γ' := (HomesA h y4_6.2.2.2) :: (Asn.own b0_0 (.cells #[iv y5_6.kind, iv y5_6.src, iv y5_6.dst, iv y5_6.id, iv y5_6.line, iv y5_6.ptr, iv y5_6.state, .bool y5_6.flag, .slice a5_6_00 (List.length y5_6.data) c5_6_00] 32 (0, 0))) :: (IntsA a5_6_00 c5_6_00 y5_6.data) :: (IntsA a1_3_00 c1_3_00 y1_3) :: Γ) (fun w hw => HomesXA.shut (hw.pull (.there (.there .here)))) ?_
  obtain rfl := someE H
  refine at_backR [.agg #[iv y5_6.kind, iv y5_6.src, iv y5_6.dst, iv y5_6.id, iv y5_6.line, iv y5_6.ptr, iv y5_6.state, .bool y5_6.flag, .slice a5_6_00 (List.length y5_6.data) c5_6_00], .bool true] ((IntsA a5_6_00 c5_6_00 y5_6.data) :: (HomesA h y4_6.2.2.2) :: Γ) (rs := [.cell 2 32, .tmp 3]) kf (.cons (.cell kf (retN (off := 0) (vs := [iv y5_6.kind, iv y5_6.src, iv y5_6.dst, iv y5_6.id, iv y5_6.line, iv y5_6.ptr, iv y5_6.state, .bool y5_6.flag, .slice a5_6_00 (List.length y5_6.data) c5_6_00]) 9 (fun _ => kf) (holds_own (.there .here)) rfl (by exact ⟨rfl, rfl, rfl, rfl, rfl, rfl, rfl, rfl, rfl, trivial⟩))) (.cons (.tmp kf) .nil)) (fun w hw => (Sat.less (.take (.there (.there .here)) (.take .here (.drop .here (.drop .here .refl)))) hw)) ?_
  exact ⟨a5_6_00, c5_6_00, rfl, rfl⟩
end Go.Proofs.Ytcigheahollkcaa
