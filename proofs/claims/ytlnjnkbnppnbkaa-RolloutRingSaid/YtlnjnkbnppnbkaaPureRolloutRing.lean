/- The law RolloutRing answers true at every input: the plain side. -/
import Derived.Test.YtlnjnkbnppnbkaaPureOneLem
import Derived.Test.YtlnjnkbnppnbkaaLawRolloutRing
set_option linter.unusedSimpArgs false
set_option linter.unusedVariables false
namespace Go.Proofs.Ytlnjnkbnppnbkaa
open Go
theorem wakes16_is : wakes16S = some true := by kernel_rfl
theorem lonly_is (f b : Int) : lonlyS ⟨f, b⟩ = some (decide (b = -1) && decide (f = -1)) := by
  unfold lonlyS lheadS ltailS
  rw [Option.bind_some]
  by_cases h : b = -1
  · rw [bif_t (decide_eq_true h), Option.bind_some]; simp [h]
  · rw [bif_f (decide_eq_false h)]; simp [h]
/-- Who is behind node i, at first. -/
def fw (n i : Nat) : Int := if i + 1 = n then -1 else (i : Int) + 1
def R0 (n : Nat) (v : Int) (i : Nat) : CacheS := one1 (fw n i) ((i : Int) - 1) (decide (n = 1)) v 0
/-- The ring without node a. -/
def fwA (n a i : Nat) : Int := if i + 1 = a then fw n a else fw n i
def bkA (a i : Nat) : Int := if i = a + 1 then (a : Int) - 1 else (i : Int) - 1
def RA (n a : Nat) (v : Int) (i : Nat) : CacheS := if i = a then ⟨[], 1, 1, 1⟩ else one1 (fwA n a i) (bkA a i) (decide (n = 1)) v 0
section
variable (y v : Int) (n : Nat) (hy : wr (1 + y) = (n : Int)) (hn : 1 ≤ n ∧ n ≤ 6)
include hy hn
theorem l0_is (k0 : List CacheS → Int → Option Bool) : ∀ (d i fuel : Nat), i + d = n → d < fuel → rolloutRingS_l0 y v k0 fuel (mk i (R0 n v)) (i : Int) = k0 (mk n (R0 n v)) (n : Int) := by
  intro d
  induction d with
  | zero =>
    intro i fuel hi hf
    obtain ⟨f, rfl⟩ : ∃ f, fuel = f + 1 := ⟨fuel - 1, by omega⟩
    obtain rfl : i = n := by omega
    rw [rolloutRingS_l0]
    dsimp only
    rw [hy, bif_f (decide_eq_false (by omega))]
  | succ d ih =>
    intro i fuel hi hf
    obtain ⟨f, rfl⟩ : ∃ f, fuel = f + 1 := ⟨fuel - 1, by omega⟩
    have next := ih (i + 1) f (by omega) (by omega)
    rw [show ((i + 1 : Nat) : Int) = (i : Int) + 1 by omega] at next
    have step : ∀ w, w = fw n i → rolloutRingS_j12 v (i : Int) y emp (mk i (R0 n v)) (rolloutRingS_l0 y v k0 f) w = k0 (mk n (R0 n v)) (n : Int) := by
      intro w hw
      unfold rolloutRingS_j12 letP
      dsimp only
      rw [enew_is _ _ _ _ _ (by simp), Option.bind_some, put_emp _ _ _ _ _ _ (by omega), Option.bind_some]
      dsimp only
      rw [mk_snoc i (R0 n v) (by unfold R0; rw [hw, hy]; congr 1; by_cases h : n = 1 <;> simp [h]; omega), mk_len, chk_true (by omega)]
      unfold rolloutRingS_j11
      rw [chk_true (by unfold inR; omega)]
      exact next
    rw [rolloutRingS_l0]
    dsimp only [letP]
    rw [newC_emp, hy, bif_t (decide_eq_true (by omega)), chk_true (by unfold inR; omega), chk_true (by unfold inR; omega), wr_small (x := (n : Int) - 1) (by omega)]
    by_cases h : i + 1 = n
    · rw [bif_t (decide_eq_true (by omega))]
      exact step _ (by unfold fw; rw [if_pos h])
    · rw [bif_f (decide_eq_false (by omega))]
      exact step _ (by unfold fw; rw [if_neg h])
/-- What is left, from its head on. -/
theorem l5_is (a : Nat) (ha : a < n) (hn2 : 2 ≤ n) (y29 : PktS) (hp : y29.state = 1) : ∀ (d i fuel : Nat), i + d = n → d < fuel →
    rolloutRingS_l5 y (a : Int) (mk n (RA n a v)) v (rolloutRingS_k5 y29) fuel (if i = 0 then -1 else if i = a + 1 then (a : Int) - 1 else (i : Int) - 1) (if i = a then fw n a else if i = n then -1 else (i : Int)) (i : Int) = some true := by
  intro d
  induction d with
  | zero =>
    intro i fuel hi hf
    obtain ⟨f, rfl⟩ : ∃ f, fuel = f + 1 := ⟨fuel - 1, by omega⟩
    obtain rfl : i = n := by omega
    rw [rolloutRingS_l5]
    dsimp only
    rw [hy, bif_f (decide_eq_false (by omega))]
    unfold rolloutRingS_k5
    rw [if_neg (show ¬ i = a by omega), if_pos rfl, bif_t (by rfl), bif_t (by rw [hp]; rfl), wakes16_is]; rfl
  | succ d ih =>
    intro i fuel hi hf
    obtain ⟨f, rfl⟩ : ∃ f, fuel = f + 1 := ⟨fuel - 1, by omega⟩
    have next := ih (i + 1) f (by omega) (by omega)
    rw [show ((i + 1 : Nat) : Int) = (i : Int) + 1 by omega, if_neg (show ¬ i + 1 = 0 by omega)] at next
    rw [rolloutRingS_l5]
    dsimp only
    rw [hy, bif_t (decide_eq_true (by omega))]
    by_cases h : i = a
    · subst h
      rw [if_pos rfl, if_neg (show ¬ i + 1 = i by omega)] at next
      rw [bif_t (by simp)]
      unfold rolloutRingS_j6
      rw [chk_true (by unfold inR; omega), if_pos rfl]
      have e1 : (if i = 0 then (-1 : Int) else if i = i + 1 then (i : Int) - 1 else (i : Int) - 1) = (i : Int) - 1 := by split; omega; split <;> rfl
      have e2 : (if i + 1 = n then (-1 : Int) else (i : Int) + 1) = fw n i := by unfold fw; rfl
      rw [e2] at next
      rw [e1]
      exact next
    · have hr : RA n a v i = one1 (fwA n a i) (bkA a i) (decide (n = 1)) v 0 := by unfold RA; rw [if_neg h]
      rw [bif_f (decide_eq_false (by omega)), mk_len, chk_true ⟨by omega, by omega⟩, mk_nth (by omega), Int.toNat_natCast, hr, find_one, Option.bind_some]
      dsimp only
      have e1 : (if i = 0 then (-1 : Int) else if i = a + 1 then (a : Int) - 1 else (i : Int) - 1) = bkA a i := by
        unfold bkA
        by_cases h0 : i = 0
        · rw [if_pos h0, if_neg (by omega)]; omega
        · rw [if_neg h0]
      rw [bif_f (by rfl), if_neg h, if_neg (show ¬ i = n by omega), bif_f (by simp), e1, bif_f (by simp), show ewordS ⟨fwA n a i, bkA a i, 0, 1, decide (n = 1), [v]⟩ 0 = some v from rfl, Option.bind_some, show (!decide (v = v)) = false by simp]
      unfold rolloutRingS_j7
      rw [bif_f rfl]
      unfold rolloutRingS_j6
      rw [chk_true (by unfold inR; omega)]
      dsimp only
      rw [if_neg (show ¬ i + 1 = a + 1 by omega), show (i : Int) + 1 - 1 = (i : Int) by omega] at next
      have e3 : (if i + 1 = a then fw n a else if i + 1 = n then (-1 : Int) else (i : Int) + 1) = fwA n a i := by unfold fwA fw; rfl
      rw [e3] at next
      exact next
/-- The end: the home is told. -/
theorem k3_is (a : Nat) (ha : a < n) (i head : Int) (data : List Int) (st next told : Int) (h1 : n = 1 → st = 0 ∧ head = -1 ∧ data = [v]) (h2 : n ≠ 1 → st = 1 ∧ data = [] ∧ head = if a = 0 then 1 else 0) :
    rolloutRingS_k3 (a : Int) y v (mk n (RA n a v)) true i 3 0 0 6 st head data next told = some true := by
  unfold rolloutRingS_k3 letP
  dsimp only
  have hd : data.length ≤ 60 := by
    by_cases h : n = 1
    · rw [(h1 h).2.2]; simp
    · rw [(h2 h).2.1]; simp
  have hask : daskS ⟨3, 0, 0, 6, st, head, data, next, told⟩ (a : Int) 0 = some ⟨2, (a : Int), 0, 0, 0, head, st, decide ((0 : Int) < ((data.length : Nat) : Int)), data⟩ := by
    unfold daskS
    rw [show dkindS 6 = some 2 from rfl, Option.bind_some]
    dsimp only
    rw [bif_f (by rfl), bif_f (by rfl), bif_f (by rfl), bif_f (by rfl), bif_f (by rfl), bif_t (by rfl), copy_is _ hd]; rfl
  have hr : RA n a v a = ⟨[], 1, 1, 1⟩ := by unfold RA; rw [if_pos rfl]
  rw [hask, Option.bind_some, bif_f (by rfl), mk_len, chk_true ⟨by omega, by omega⟩, mk_nth (by omega), Int.toNat_natCast, hr]
  dsimp only
  rw [bif_f (by rfl), bif_f (by rfl), hy]
  by_cases h : n = 1
  · obtain ⟨rfl, rfl, rfl⟩ := h1 h
    rw [bif_f (by rw [h]; rfl), bif_t (by rw [h]; rfl), bif_f (by rfl), chk_true ⟨by omega, by simp⟩, bif_f (by simp [nth]), bif_f (by rfl), bif_f (by rfl)]
    unfold rolloutRingS_j4
    rw [hy, bif_t (by rw [h]; rfl), wakes16_is]; rfl
  · obtain ⟨rfl, rfl, e3⟩ := h2 h
    have hd1 : decide ((n : Int) = 1) = false := decide_eq_false (by omega)
    rw [hd1, bif_f (by rfl), bif_f rfl]
    unfold rolloutRingS_j4
    rw [hy, hd1, bif_f rfl]
    have := l5_is y v n hy hn a ha (by omega) ⟨2, (a : Int), 0, 0, 0, head, 1, decide ((0 : Int) < (((([] : List Int)).length : Nat) : Int)), []⟩ rfl n 0 64 (by omega) (by omega)
    have e4 : (if 0 = a then fw n a else if 0 = n then (-1 : Int) else ((0 : Nat) : Int)) = head := by
      rw [e3]
      by_cases h0 : a = 0
      · subst h0; rw [if_pos rfl, if_pos rfl]; unfold fw; rw [if_neg (by omega)]; rfl
      · rw [if_neg (by omega), if_neg (by omega), if_neg h0]; rfl
    rw [e4, if_pos rfl] at this
    exact this
end
theorem l3_end (y a : Int) (k3 : List CacheS → Bool → Int → Int → Int → Int → Int → Int → Int → List Int → Int → Int → Option Bool) (f : Nat) (cs : List CacheS) (i K L I st hd nx td : Int) (data : List Int) :
    rolloutRingS_l3 a y k3 (f + 1) cs true i K L I 6 st hd data nx td = k3 cs true i K L I 6 st hd data nx td := by
  rw [rolloutRingS_l3]
  dsimp only
  rw [bif_t rfl]
  unfold rolloutRingS_j8
  rw [bif_f (by rfl)]
theorem l3_step (y a : Int) (n : Nat) (hy : wr (1 + y) = (n : Int)) (hn : n ≤ 6) (k3 : List CacheS → Bool → Int → Int → Int → Int → Int → Int → Int → List Int → Int → Int → Option Bool) (f : Nat) (cs : List CacheS) (i : Int) (d d' : DealS) (p q : PktS) (c1 c2 : CacheS) (hi : 0 ≤ i ∧ i ≤ 2) (hs : d.step ≠ 6)
    (hask : daskS d a 0 = some p) (hb : 0 ≤ p.dst ∧ p.dst < (n : Int)) (hne : p.dst ≠ a) (ha : 0 ≤ a ∧ a < (n : Int)) (hl : cs.length = n) (hsv : shandleS (nthC cs p.dst) p = some (q, 0, c1)) (hnx : rnextS d a (nthC (setC cs p.dst c1) a) q = some (d', true, c2)) :
    rolloutRingS_l3 a y k3 (f + 1) cs true i d.kind d.line d.id d.step d.state d.head d.data d.next d.told = rolloutRingS_l3 a y k3 f (setC (setC cs p.dst c1) a c2) true (i + 1) d'.kind d'.line d'.id d'.step d'.state d'.head d'.data d'.next d'.told := by
  rw [rolloutRingS_l3]
  dsimp only
  rw [bif_t rfl]
  unfold rolloutRingS_j8
  rw [bif_t (by simp [hs]), hask, Option.bind_some, bif_f (decide_eq_false (by omega)), bif_f (decide_eq_false (by omega)), hy, bif_f (decide_eq_false (by omega)), decide_eq_false hne]
  unfold rolloutRingS_j9 letP
  dsimp only
  rw [bif_f rfl, chk_true ⟨hb.1, by omega⟩, hsv, Option.bind_some]
  dsimp only
  unfold rolloutRingS_j10 letP
  dsimp only
  rw [bif_f (by rfl), setC_len, chk_true ⟨ha.1, by omega⟩, hnx, Option.bind_some]
  dsimp only
  rw [chk_true (by unfold inR; omega)]
theorem roll_in (d : DealS) (node : Int) (c : CacheS) (p : PktS) (hk : d.kind = 3) (hf : fitB d p = true) : rnextS d node c p = rnextS_j0 c d p false := by
  unfold rnextS
  rw [bif_f (by simp [hk]), fit_d, Option.bind_some, hf]; rfl
theorem rout_one (d : DealS) (f b v l head : Int) (w : Bool) (hl : d.line = l) : routS d (one1 f b w v l) head = some (⟨d.kind, d.line, d.id, 6, 1, head, [], d.next, d.told⟩, ⟨[], 1, 1, 1⟩) := by
  unfold routS
  rw [hl, drop_one]; rfl
theorem roll4_end (d : DealS) (node f b v l : Int) (w : Bool) (p : PktS) (hk : d.kind = 3) (hs : d.step = 4) (hf : fitB d p = true) (hl : d.line = l) (hn : d.next = -1) :
    rnextS d node (one1 f b w v l) p = some (⟨d.kind, d.line, d.id, 6, 1, d.told, [], d.next, d.told⟩, true, ⟨[], 1, 1, 1⟩) := by
  rw [roll_in d node _ p hk hf]
  unfold rnextS_j0
  rw [bif_f rfl, bif_f (decide_eq_false (by omega)), bif_t (decide_eq_true hs), bif_t (decide_eq_true hn), rout_one _ _ _ _ _ _ _ hl]; rfl
theorem roll4_mid (d : DealS) (node : Int) (c : CacheS) (p : PktS) (hk : d.kind = 3) (hs : d.step = 4) (hf : fitB d p = true) (hn : d.next ≠ -1) :
    rnextS d node c p = some (⟨d.kind, d.line, d.id, 5, d.state, d.head, d.data, d.next, d.told⟩, true, c) := by
  rw [roll_in d node _ p hk hf]
  unfold rnextS_j0
  rw [bif_f rfl, bif_f (decide_eq_false (by omega)), bif_t (decide_eq_true hs), bif_f (decide_eq_false hn)]
theorem roll5 (d : DealS) (node f b v l : Int) (w : Bool) (p : PktS) (hk : d.kind = 3) (hs : d.step = 5) (hf : fitB d p = true) (hl : d.line = l) :
    rnextS d node (one1 f b w v l) p = some (⟨d.kind, d.line, d.id, 6, 1, if d.head = -1 then d.next else d.told, [], d.next, d.told⟩, true, ⟨[], 1, 1, 1⟩) := by
  rw [roll_in d node _ p hk hf]
  unfold rnextS_j0
  rw [bif_f rfl, bif_f (decide_eq_false (by omega)), bif_f (decide_eq_false (by omega)), bif_t (decide_eq_true hs)]
  by_cases h : d.head = -1
  · rw [bif_t (decide_eq_true h), rout_one _ _ _ _ _ _ _ hl, if_pos h]; rfl
  · rw [bif_f (decide_eq_false h), rout_one _ _ _ _ _ _ _ hl, if_neg h]; rfl
theorem j1_is (y v : Int) (n a : Nat) (hy : wr (1 + y) = (n : Int)) (hn : 1 ≤ n ∧ n ≤ 6) (ha : a < n) (st : Int) (hst : n ≠ 1 → st = 1) : rolloutRingS_j1 (a : Int) (mk n (R0 n v)) v y st = some true := by
  have k3 := k3_is y v n hy hn a ha
  have hfit : ∀ x : Int, fitB ⟨3, 0, 0, 1, 0, -1, [], -1, -1⟩ ⟨7, 0, (a : Int), 0, 0, 0, st, false, [x]⟩ = true := fun x => by simp [fitB, wantK]
  unfold rolloutRingS_j1 letP
  dsimp only
  rw [mk_len, chk_true ⟨by omega, by omega⟩, show dbeginS 3 0 0 = some ⟨3, 0, 0, 1, 0, -1, [], -1, -1⟩ from rfl, Option.bind_some, mk_nth (by omega), Int.toNat_natCast, roll_in _ _ _ _ rfl (hfit _)]
  unfold rnextS_j0
  rw [bif_f rfl, bif_t (by rfl)]
  unfold rlockedS
  dsimp only
  rw [show R0 n v a = one1 (fw n a) ((a : Int) - 1) (decide (n = 1)) v 0 from rfl, find_one, Option.bind_some]
  dsimp only
  rw [bif_f (by rfl), lonly_is, Option.bind_some]
  have hset : ∀ (g : Nat → CacheS), (∀ j, j < n → g j = RA n a v j) → mk n g = mk n (RA n a v) := fun g h => mk_congr h
  have same : setC (mk n (R0 n v)) (a : Int) (one1 (fw n a) ((a : Int) - 1) (decide (n = 1)) v 0) = mk n (R0 n v) := by
    rw [mk_set]
    refine mk_congr fun j _ => ?_
    rw [Int.toNat_natCast]
    by_cases hj : j = a
    · rw [if_pos hj, hj]; rfl
    · rw [if_neg hj]
  by_cases h1 : n = 1
  · -- it is the last one
    obtain rfl : a = 0 := by omega
    subst h1
    rw [bif_t (by simp [fw]), drop_one, Option.bind_some]
    dsimp only
    rw [bif_t (by rfl)]
    unfold rolloutRingS_j2
    dsimp only [Option.bind_some]
    rw [l3_end, mk_set, hset _ fun j hj => by
      obtain rfl : j = 0 := by omega
      rfl]
    exact k3 0 (-1) [v] 0 (-1) 0 (fun _ => ⟨rfl, rfl, rfl⟩) (fun h => absurd rfl h)
  have hd : decide (n = 1) = false := decide_eq_false h1
  have hst := hst h1
  subst hst
  rw [hd] at same ⊢
  by_cases h0 : a = 0
  · subst h0
    have hfw : fw n 0 = 1 := by unfold fw; rw [if_neg (by omega)]; rfl
    rw [bif_f (by rw [hfw]; rfl), show lheadS ⟨fw n 0, ((0 : Nat) : Int) - 1⟩ = some true from rfl, Option.bind_some, bif_t rfl]
    unfold rolloutRingS_j2
    dsimp only [Option.bind_some]
    rw [same, hfw]
    have hn1 : nthC (mk n (R0 n v)) 1 = one1 (fw n 1) 0 false v 0 := by
      rw [mk_nth (by omega)]
      show one1 (fw n 1) (((1 : Nat) : Int) - 1) (decide (n = 1)) v 0 = _
      rw [hd]; rfl
    have s1 := l3_step y 0 n hy (by omega) (rolloutRingS_k3 0 y v) 63 (mk n (R0 n v)) 0 ⟨3, 0, 0, 5, 1, -1, [], 1, 0⟩ ⟨3, 0, 0, 6, 1, 1, [], 1, 0⟩ ⟨5, 0, 1, 0, 0, -1, 0, false, []⟩ ⟨8, 1, 0, 0, 0, 0, 0, false, []⟩ (one1 (fw n 1) (-1) false v 0) ⟨[], 1, 1, 1⟩ (by omega) (by decide) rfl ⟨by decide, by show (1 : Int) < n; omega⟩ (by decide) ⟨by omega, by omega⟩ (mk_len ..)
      (by rw [show (⟨5, 0, 1, 0, 0, -1, 0, false, []⟩ : PktS).dst = 1 from rfl, hn1]; exact serve5 (l := 0) ⟨5, 0, 1, 0, 0, -1, 0, false, []⟩ (by rfl) rfl rfl)
      (by
        rw [mk_set, mk_nth (by omega), if_neg (by decide), show R0 n v (0 : Int).toNat = one1 (fw n 0) (-1) (decide (n = 1)) v 0 from rfl]
        exact roll5 ⟨3, 0, 0, 5, 1, -1, [], 1, 0⟩ 0 _ _ _ _ _ _ rfl rfl (by rfl) rfl)
    rw [show ((0 : Nat) : Int) = 0 from rfl]
    refine s1.trans ?_
    dsimp only
    rw [l3_end, mk_set, mk_set, hset _ fun j hj => by
      unfold RA
      by_cases b0 : j = 0
      · subst b0; rfl
      · rw [if_neg (by show ¬ j = 0; exact b0), if_neg b0]
        by_cases b1 : j = 1
        · subst b1; rw [if_pos (by rfl), hd]; unfold fwA bkA; rw [if_neg (by omega), if_pos rfl]; rfl
        · rw [if_neg (by show ¬ j = 1; exact b1)]
          unfold R0 fwA bkA
          rw [if_neg (by omega), if_neg (by omega)]]
    exact k3 _ 1 [] 1 1 0 (fun h => absurd h h1) (fun _ => ⟨rfl, rfl, rfl⟩)
  · have hfw : -1 ≤ fw n a ∧ fw n a ≤ 5 := by unfold fw; split <;> omega
    rw [bif_f (by simp; omega), show lheadS ⟨fw n a, (a : Int) - 1⟩ = some false by unfold lheadS; simp; omega, Option.bind_some, bif_f rfl]
    unfold rolloutRingS_j2
    dsimp only [Option.bind_some]
    rw [same]
    have hp : ((a : Int) - 1).toNat = a - 1 := by omega
    have hn1 : nthC (mk n (R0 n v)) ((a : Int) - 1) = one1 (a : Int) ((a : Int) - 1 - 1) false v 0 := by
      rw [mk_nth (by omega), hp]
      unfold R0 fw
      rw [if_neg (by omega), hd, show (((a - 1 : Nat) : Int)) = (a : Int) - 1 by omega, show (a : Int) - 1 + 1 = a by omega]
    have sv := serve4 (f := (a : Int)) (b := (a : Int) - 1 - 1) (d := false) (v := v) (l := 0) ⟨4, (a : Int), (a : Int) - 1, 0, 0, fw n a, 0, false, []⟩ (by simp [okP]; omega) rfl rfl
    have hat : ∀ c : CacheS, nthC (setC (mk n (R0 n v)) ((a : Int) - 1) c) (a : Int) = one1 (fw n a) ((a : Int) - 1) (decide (n = 1)) v 0 := fun c => by
      rw [mk_set, mk_nth (by omega), Int.toNat_natCast, if_neg (by omega)]; rfl
    by_cases he : a + 1 = n
    · have hw : fw n a = -1 := by unfold fw; rw [if_pos he]
      have s1 := l3_step y (a : Int) n hy (by omega) (rolloutRingS_k3 (a : Int) y v) 63 (mk n (R0 n v)) 0 ⟨3, 0, 0, 4, 1, (a : Int) - 1, [], fw n a, 0⟩ ⟨3, 0, 0, 6, 1, 0, [], fw n a, 0⟩ ⟨4, (a : Int), (a : Int) - 1, 0, 0, fw n a, 0, false, []⟩ _ _ ⟨[], 1, 1, 1⟩ (by omega) (by show (4 : Int) ≠ 6; decide) rfl ⟨by show 0 ≤ (a : Int) - 1; omega, by show (a : Int) - 1 < n; omega⟩ (by show (a : Int) - 1 ≠ a; omega) ⟨by omega, by omega⟩ (mk_len ..)
        (by rw [show (⟨4, (a : Int), (a : Int) - 1, 0, 0, fw n a, 0, false, []⟩ : PktS).dst = (a : Int) - 1 from rfl, hn1]; exact sv)
        (by
          rw [show (⟨4, (a : Int), (a : Int) - 1, 0, 0, fw n a, 0, false, []⟩ : PktS).dst = (a : Int) - 1 from rfl, hat]
          exact roll4_end ⟨3, 0, 0, 4, 1, (a : Int) - 1, [], fw n a, 0⟩ _ _ _ _ _ _ _ rfl rfl (by rfl) rfl hw)
      refine s1.trans ?_
      dsimp only
      rw [l3_end, mk_set, mk_set, hset _ fun j hj => by
        rw [Int.toNat_natCast, hp]
        unfold RA
        by_cases b0 : j = a
        · rw [if_pos b0, if_pos b0]
        · rw [if_neg b0, if_neg b0]
          by_cases b1 : j = a - 1
          · rw [if_pos b1, hd]
            unfold fwA bkA
            rw [if_pos (by omega), if_neg (by omega), show (j : Int) = (a : Int) - 1 by omega]
          · rw [if_neg b1]
            unfold R0 fwA bkA
            rw [if_neg (by omega), if_neg (by omega)]]
      exact k3 _ 0 [] 1 (fw n a) 0 (fun h => absurd h h1) (fun _ => ⟨rfl, rfl, by rw [if_neg h0]⟩)
    · have hw : fw n a = (a : Int) + 1 := by unfold fw; rw [if_neg he]
      have s1 := l3_step y (a : Int) n hy (by omega) (rolloutRingS_k3 (a : Int) y v) 63 (mk n (R0 n v)) 0 ⟨3, 0, 0, 4, 1, (a : Int) - 1, [], fw n a, 0⟩ ⟨3, 0, 0, 5, 1, (a : Int) - 1, [], fw n a, 0⟩ ⟨4, (a : Int), (a : Int) - 1, 0, 0, fw n a, 0, false, []⟩ _ _ (one1 (fw n a) ((a : Int) - 1) (decide (n = 1)) v 0) (by omega) (by show (4 : Int) ≠ 6; decide) rfl ⟨by show 0 ≤ (a : Int) - 1; omega, by show (a : Int) - 1 < n; omega⟩ (by show (a : Int) - 1 ≠ a; omega) ⟨by omega, by omega⟩ (mk_len ..)
        (by rw [show (⟨4, (a : Int), (a : Int) - 1, 0, 0, fw n a, 0, false, []⟩ : PktS).dst = (a : Int) - 1 from rfl, hn1]; exact sv)
        (by
          rw [show (⟨4, (a : Int), (a : Int) - 1, 0, 0, fw n a, 0, false, []⟩ : PktS).dst = (a : Int) - 1 from rfl, hat]
          exact roll4_mid ⟨3, 0, 0, 4, 1, (a : Int) - 1, [], fw n a, 0⟩ _ _ _ rfl rfl (by rfl) (by show fw n a ≠ -1; omega))
      refine s1.trans ?_
      dsimp only
      have hcs : setC (setC (mk n (R0 n v)) ((a : Int) - 1) (one1 (fw n a) ((a : Int) - 1 - 1) false v 0)) (a : Int) (one1 (fw n a) ((a : Int) - 1) (decide (n = 1)) v 0) = mk n fun j => if j = a - 1 then one1 (fw n a) ((a : Int) - 1 - 1) false v 0 else R0 n v j := by
        rw [mk_set, mk_set]
        refine mk_congr fun j _ => ?_
        rw [Int.toNat_natCast, hp]
        by_cases b0 : j = a
        · rw [if_pos b0, if_neg (by omega), b0]; rfl
        · rw [if_neg b0]
      rw [hcs]
      have hn2 : ((a : Int) + 1).toNat = a + 1 := by omega
      have hat2 : nthC (mk n fun j => if j = a - 1 then one1 (fw n a) ((a : Int) - 1 - 1) false v 0 else R0 n v j) ((a : Int) + 1) = one1 (fw n (a + 1)) (a : Int) false v 0 := by
        rw [mk_nth (by omega), hn2, if_neg (by omega)]
        unfold R0
        rw [hd, show ((a + 1 : Nat) : Int) - 1 = a by omega]
      have sv2 := serve5 (f := fw n (a + 1)) (b := (a : Int)) (d := false) (v := v) (l := 0) ⟨5, (a : Int), (a : Int) + 1, 0, 0, (a : Int) - 1, 0, false, []⟩ (by simp [okP]; omega) rfl rfl
      have s2 := l3_step y (a : Int) n hy (by omega) (rolloutRingS_k3 (a : Int) y v) 62 (mk n fun j => if j = a - 1 then one1 (fw n a) ((a : Int) - 1 - 1) false v 0 else R0 n v j) (0 + 1) ⟨3, 0, 0, 5, 1, (a : Int) - 1, [], (a : Int) + 1, 0⟩ ⟨3, 0, 0, 6, 1, 0, [], (a : Int) + 1, 0⟩ ⟨5, (a : Int), (a : Int) + 1, 0, 0, (a : Int) - 1, 0, false, []⟩ _ _ ⟨[], 1, 1, 1⟩ (by omega) (by show (5 : Int) ≠ 6; decide) rfl ⟨by show 0 ≤ (a : Int) + 1; omega, by show (a : Int) + 1 < n; omega⟩ (by show (a : Int) + 1 ≠ a; omega) ⟨by omega, by omega⟩ (mk_len ..)
        (by rw [show (⟨5, (a : Int), (a : Int) + 1, 0, 0, (a : Int) - 1, 0, false, []⟩ : PktS).dst = (a : Int) + 1 from rfl, hat2]; exact sv2)
        (by
          rw [show (⟨5, (a : Int), (a : Int) + 1, 0, 0, (a : Int) - 1, 0, false, []⟩ : PktS).dst = (a : Int) + 1 from rfl, mk_set, mk_nth (by omega), Int.toNat_natCast, if_neg (by omega), if_neg (by omega), show R0 n v a = one1 (fw n a) ((a : Int) - 1) (decide (n = 1)) v 0 from rfl,
            roll5 ⟨3, 0, 0, 5, 1, (a : Int) - 1, [], (a : Int) + 1, 0⟩ _ _ _ _ _ _ _ rfl rfl (by rfl) rfl]
          dsimp only
          rw [if_neg (by omega)])
      rw [hw]
      rw [hw] at s2
      refine s2.trans ?_
      dsimp only
      rw [l3_end, mk_set, mk_set, hset _ fun j hj => by
        rw [Int.toNat_natCast, hn2]
        unfold RA
        by_cases b0 : j = a
        · rw [if_pos b0, if_pos b0]
        · rw [if_neg b0, if_neg b0]
          by_cases b2 : j = a + 1
          · rw [if_pos b2, hd]
            unfold fwA bkA
            rw [if_neg (by omega), if_pos b2, b2]
          · rw [if_neg b2]
            by_cases b1 : j = a - 1
            · rw [if_pos b1, hd]
              unfold fwA bkA
              rw [if_pos (by omega), if_neg (by omega), hw, show (j : Int) = (a : Int) - 1 by omega]
            · rw [if_neg b1]
              unfold R0 fwA bkA
              rw [if_neg (by omega), if_neg (by omega)]]
      exact k3 _ 0 [] 1 _ 0 (fun h => absurd h h1) (fun _ => ⟨rfl, rfl, by rw [if_neg h0]⟩)
theorem rolloutRing_pure (n at_ v : Int) : rolloutRingS n at_ v = some true := by
  obtain ⟨y, e1, y1, y2⟩ := within_is (v := n) (n := 6) (by omega) (by omega)
  obtain ⟨m, hm⟩ : ∃ m : Nat, 1 + y = (m : Int) := ⟨(1 + y).toNat, by omega⟩
  have hy : wr (1 + y) = (m : Int) := by rw [wr_small (by omega), hm]
  obtain ⟨x, e2, x1, x2⟩ := within_is (v := at_) (n := (m : Int)) (by omega) (by omega)
  obtain ⟨a, ha⟩ : ∃ a : Nat, x = (a : Int) := ⟨x.toNat, by omega⟩
  subst ha
  unfold rolloutRingS
  rw [e1, Option.bind_some, hy, e2, Option.bind_some]
  have h0 := l0_is y v m hy (by omega) (rolloutRingS_k0 y (a : Int) v) m 0 64 (by omega) (by omega)
  rw [show mk 0 (R0 m v) = [] from rfl, show ((0 : Nat) : Int) = 0 from rfl] at h0
  rw [h0]
  unfold rolloutRingS_k0
  rw [hy]
  by_cases h1 : m = 1
  · rw [bif_t (decide_eq_true (by omega))]
    exact j1_is y v m a hy (by omega) (by omega) 2 (fun h => absurd h1 h)
  · rw [bif_f (decide_eq_false (by omega))]
    exact j1_is y v m a hy (by omega) (by omega) 1 (fun _ => rfl)
end Go.Proofs.Ytlnjnkbnppnbkaa
