/- Contracts: the reference's element of a diagram. -/
import Derived.Test.YtkgoadglalpbfaaF1
namespace Go.Proofs.Ytkgoadglalpbfaa
open Go.Am Go.Dia
open Nat renaming reduceAdd → nA, reduceMul → nM, reduceSub → nS, reduceEqDiff → nE, reduceLT → nL, reduceLeDiff → nD, reduceBEq → nB
open Int renaming reduceEq → iE, reduceNe → iN, reduceBEq → iB, reduceBNe → iC, reduceLT → iL, reduceLE → iD, reduceAdd → iA, reduceSub → iS, reduceMul → iM
set_option linter.unusedSimpArgs false
set_option linter.unusedVariables false
set_option maxRecDepth 4000
set_option maxHeartbeats 1000000
theorem qb8 : B22 108 = some (qu Xw) := rfl
theorem qak : B22 109 = some (qu x9) := rfl
def vo : AC := .seq (.seq (.region [oM 25 9,oM 26 10,oP 27 .lss 25 26]) (.cond 27 .skip (.exit 0))) (.block 1 (.seq (.region [oM 28 9,oM 29 10,oP 30 .add 28 29,oK 31 .quo 30 2,oM 12 31]) (.seq (.region [oM 32 1,oM 33 12,oX 34 18 32 33,oF 35 0 34,oN 36 17 35,oC 37 109 [.t 36],oM 38 11,oP 39 .lss 37 38]) (.cond 39 (.region [oM 40 12,oK 41 .add 40 1,oM 9 41]) (.region [oM 42 12,oM 10 42])))))
def wv : AC := .seq (.seq (.region [oM 61 0,oM 62 1,oM 63 9,oX 64 18 62 63,oF 65 17 64,oL 66 65,oM 67 3,oP 68 .add 66 67,oC 69 108 [.t 61,.t 68],oM 14 69]) (.seq (.region [oM 70 14,oK 71 .neq 70 0]) (.cond 71 (.region [oM 72 13,oN 73 17 6,oM 74 14,o0 75 (.build [.int .i64 0,.int .u8 0,.int .u8 0,.int .u8 0,.int .u8 0,.int .u8 0,.int .u8 0,.int .u8 0,.int .u8 0,.int .u8 0,.int .u8 0,.int .u8 0,.int .u8 0,.int .u8 0,.int .u8 0,.int .u8 0,.int .u8 0,.int .i64 0] [(0,17,.t 73),(17,1,.t 74)]),o0 76 (.gr 1 [.int .i64 0,.int .u8 0,.int .u8 0,.int .u8 0,.int .u8 0,.int .u8 0,.int .u8 0,.int .u8 0,.int .u8 0,.int .u8 0,.int .u8 0,.int .u8 0,.int .u8 0,.int .u8 0,.int .u8 0,.int .u8 0,.int .u8 0,.int .i64 0] [(0,18,.t 75)]),o0 77 (.append 18 32 (.t 72) (.t 76)),oM 13 77]) .skip))) (.seq (.region [oM 78 13,oM 79 1,oM 80 9,oK 81 .add 80 1,o0 82 (.U4 18 (.t 79) (some (.t 81)) none),o0 83 (.append 18 32 (.t 78) (.t 82)),oM 8 83]) .ret)
def yx : AC := .cond 60 wv .skip
def y5 : AC := .seq (.region [oM 84 13,oN 85 17 6,oM 86 3,o0 87 (.build [.int .i64 0,.int .u8 0,.int .u8 0,.int .u8 0,.int .u8 0,.int .u8 0,.int .u8 0,.int .u8 0,.int .u8 0,.int .u8 0,.int .u8 0,.int .u8 0,.int .u8 0,.int .u8 0,.int .u8 0,.int .u8 0,.int .u8 0,.int .i64 0] [(0,17,.t 85),(17,1,.t 86)]),o0 88 (.gr 1 [.int .i64 0,.int .u8 0,.int .u8 0,.int .u8 0,.int .u8 0,.int .u8 0,.int .u8 0,.int .u8 0,.int .u8 0,.int .u8 0,.int .u8 0,.int .u8 0,.int .u8 0,.int .u8 0,.int .u8 0,.int .u8 0,.int .u8 0,.int .i64 0] [(0,18,.t 87)]),o0 89 (.append 18 32 (.t 84) (.t 88)),oM 13 89]) (.seq (.region [oM 90 13,oM 91 1,oM 92 9,o0 93 (.U4 18 (.t 91) (some (.t 92)) none),o0 94 (.append 18 32 (.t 90) (.t 93)),oM 8 94]) .ret)
def yw : AC := .seq (.region [o0 43 (.gr 0 [] []),oM 44 1,oM 45 9,o0 46 (.U4 18 (.t 44) none (some (.t 45))),o0 47 (.append 18 32 (.t 43) (.t 46)),oM 13 47]) (.seq (.seq (.draw false [oM 48 9,oM 49 1,o0 50 (.len .slc (.t 49)),oP 51 .lss 48 50,oM 52 51,oG 53 52 true (.mov (.t 1)),oG 54 52 true (.mov (.t 9)),oG 55 52 true (.Qu 18 (.t 53) (.t 54)),oG 56 52 true (.ve 0 (.t 55)),oG 57 52 true (.gn 17 (.t 56)),oG 58 52 true (.gn 17 (.t 6)),oG 59 52 true (.eqs false [.int,.int,.int,.int,.int,.int,.int,.int,.int,.int,.int,.int,.int,.int,.int,.int,.int] (.t 57) (.t 58)),o0 60 (.pick (.t 52) (.t 59) (.c (.bool false)))]) yx) y5)
def Wc : AC := .seq (.region [o0 6 (.box (.t 2)),o0 8 (.mov (.c (.v (.slice none 0 0))))]) (.seq (.region [oM 15 0,oM 16 3,oC 17 108 [.t 15,.t 16],oM 3 17]) (.seq (.seq (.region [oM 18 3,oK 19 .eql 18 0]) (.cond 19 (.seq (.region [oM 20 1,oM 8 20]) .ret) .skip)) (.seq (.region [oM 21 1,o0 22 (.len .slc (.t 21)),oN 23 17 6,oC 24 109 [.t 23],oI 9 0,oM 10 22,oM 11 24]) (.seq (.block 0 (.loop vo)) yw))))
theorem qde : zy Try.prog 61 = some ⟨95, Wc, [.slot 8]⟩ := by kernel_rfl
theorem jt : [AV.int .i64 0, .int .u8 0, .int .u8 0, .int .u8 0, .int .u8 0, .int .u8 0, .int .u8 0, .int .u8 0, .int .u8 0, .int .u8 0, .int .u8 0, .int .u8 0, .int .u8 0, .int .u8 0, .int .u8 0, .int .u8 0, .int .u8 0, .int .i64 0] = trm (0, List.replicate 16 0, 0) := rfl
theorem u6 (t : Int × List Nat × Int) : (trm t).length = t.2.1.length + 2 := by simp [trm, qe]
theorem V3 {t : Int × List Nat × Int} {n : Int} {m : List Nat} (h : t.2.1.length = 16) (h' : m.length = 16) : over (trm t) 0 (dia n m) = trm (n, m, t.2.2) := by
  simp only [over, trm, List.take_zero, List.nil_append, Nat.zero_add, qe, h']
  rw [List.drop_append, List.drop_of_length_le (by rw [qe, h]; exact Nat.le_refl _), qe, h]; rfl
theorem Wj {t : Int × List Nat × Int} {f : Int} (h : t.2.1.length = 16) : over (trm t) 17 [.int .i64 f] = trm (t.1, t.2.1, f) := by
  simp only [over, trm]
  rw [List.take_append_of_le_length (by rw [qe, h]; exact Nat.le_refl _), List.take_of_length_le (by rw [qe, h]; exact Nat.le_refl _), List.drop_of_length_le (by simp [qe, h]), List.append_nil]
theorem Zx {t u : Int × List Nat × Int} (h : t.2.1.length = 16) (h' : u.2.1.length = 16) : over (trm t) 0 (trm u) = trm u := Ko (by rw [u6, u6, h, h'])
theorem Jd {t : Int × List Nat × Int} (h : t.2.1.length = 16) : List.take 18 (trm t) = trm t := by rw [List.take_of_length_le]; rw [u6, h]; exact Nat.le_refl _
theorem j1 (t : Int × List Nat × Int) : (trm t).all AV.one = true := by simp [trm, xd, AV.one]
theorem Bc : ((0 : Nat) : Int) = 0 := rfl
theorem qng : ((1 : Nat) : Int) = 1 := rfl
def qqr (p : Int) (n : Nat) (m : List Nat) (k : Int) (v : AV) (H' : List AO) : Prop := if k.emod p = 0 then v = .slc 0 0 0 true 0 ∧ H' = [.ro []] else v = .slc 1 0 1 false 0 ∧ H' = [.ro [], .vec 18 (qq [((n : Int), m, k.emod p)])]
theorem qk7 (p : Int) (n : Nat) (m : List Nat) (k : Int) (hp : 0 < p ∧ p ≤ 1000000) (hn : n ≤ 8) (hm : okD m) :
    Am.Fn Try.prog 61 [.int .i64 p, .slc 0 0 0 true 0, .agg (dia n m), .int .i64 k] [.ro []] (qqr p n m k) := by
  refine Am.Fn.ofB qmr mixed qde (by simp) (Zu rfl) ?_
  have hml := hm.1
  simp (maxSteps := 3000000) only [Wc, qb8, qak, Xw, x9, vz hml, hml, qe, zd hm, rd, List.getElem?_cons_zero, List.getElem?_cons_succ, qb, zZ, ↓qp, ↓reduceIte, reduceCtorEq, nA, nM, nS, nE, nL, nD]; try simp only [qb, zY]
  refine ⟨hp, fun h => ?_, fun h => ⟨⟨by omega, by omega⟩, ?_⟩⟩
  · refine Ret.zw [0] ⟨⟨Nat.le_refl 1, rfl, by decide⟩, ?_⟩ (rs := [.slc 0 0 0 true 0]) rfl (by rfl) (by simp [xc]) ?_ ?_
    · simp only [zK, ↓reduceIte, reduceCtorEq, nE, nB, nA]
    · intro j l; cases j <;> simp [zi, AO.ren]
    · unfold qqr
      rw [if_pos h]
      simp only [xc]
      simp only [zL, ↓reduceIte, reduceCtorEq, nE, nA]
      exact ⟨trivial, trivial⟩
  · refine WA.j8 qmr (fun s => s = ⟨[(11, .str (xw n m)), (10, .int .i64 0), (9, .int .i64 0), (6, .ptr 1 0), (0, .int .i64 p), (1, .slc 0 0 0 true 0), (3, .int .i64 (k.emod p))], [.ro [], .cells (dia n m)]⟩) (fun _ => 0) ⟨_, qz.zc [11, 10, 9, 6, 0, 1, 3], rfl⟩ ?_
    rintro s rfl
    have hdl : (dia (n : Int) m).length = 17 := by rw [qe, hml]
    have hz : (List.replicate 16 0 : List Nat).length = 16 := rfl
    have e1 : over (trm (0, List.replicate 16 0, 0)) 0 (dia (n : Int) m) = trm ((n : Int), m, 0) := V3 (t := (0, List.replicate 16 0, 0)) hz hml
    have e2 : ∀ f : Int, over (trm ((n : Int), m, 0)) 17 [.int .i64 f] = trm ((n : Int), m, f) := fun f => Wj (t := ((n : Int), m, 0)) hml
    have e3 : ∀ f : Int, over (trm (0, List.replicate 16 0, 0)) 0 (trm ((n : Int), m, f)) = trm ((n : Int), m, f) := fun f => Zx (t := (0, List.replicate 16 0, 0)) hz hml
    have e4 : ∀ f : Int, List.take 18 (trm ((n : Int), m, f)) = trm ((n : Int), m, f) := fun f => Jd (t := ((n : Int), m, f)) hml
    simp (maxSteps := 3000000) only [vo, yw, vt, src, lim, u9, Option.map_some, Option.map_none, rd, List.getElem?_cons_zero, List.getElem?_cons_succ, List.set_cons_zero, List.set_cons_succ, Bc, qng, Int.lt_irrefl, Int.le_refl, Nat.zero_mul, Int.toNat_zero, List.take_zero, List.drop_zero, List.all_nil, qb, zZ, ↓qp, ↓reduceIte, reduceCtorEq, nA, nM, nS, nE, nL, nD]; try simp only [qb, zY]
    simp (maxSteps := 3000000) only [yx, y5, jt, u6, e1, e2, e3, e4, j1, hml, hz, q9 hml, qe, vt, src, lim, u9, Option.map_some, Option.map_none, rd, List.getElem?_cons_zero, List.getElem?_cons_succ, List.set_cons_zero, List.set_cons_succ, Bc, qng, Int.lt_irrefl, Int.le_refl, Nat.zero_mul, Int.toNat_zero, List.take_zero, List.drop_zero, List.all_nil, qb, zZ, ↓qp, ↓reduceIte, reduceCtorEq, nA, nM, nS, nE, nL, nD]; try simp only [qb, zY]
    refine Ret.zw [0, 6] ⟨⟨by simp, rfl, by decide⟩, ?_⟩ (rs := [.slc 6 0 1 false 0]) rfl (by rfl) (by simp [xc]) ?_ ?_
    · simp only [qc _ _ (v7 _), zK, ↓reduceIte, reduceCtorEq, nE, nB, nA]
    · intro j l; match j with
      | 0 => intro _; exact ⟨[], rfl⟩
      | 1 => simp [zi, AO.ren]
      | j + 2 => simp [zi]
    · unfold qqr
      rw [if_neg h]
      simp only [xc]
      simp only [qd _ _ (v7 _), zL, ↓reduceIte, reduceCtorEq, nE, nA]
      exact ⟨trivial, by simp only [qq, List.flatMap_cons, List.flatMap_nil, List.append_nil]⟩
def qle : BE := fun hp xs => match xs with
  | [.int .i64 p, .slc b 0 0 true 0, .agg l, .int .i64 k] => match rd hp b, bg l with
    | some _, some (n, m) => chk ((0 < p ∧ p ≤ 1000000) ∧ 0 ≤ n ∧ n ≤ 8) (if k.emod p = 0 then some (.slc b 0 0 true 0, hp) else some (.slc hp.length 0 1 false 0, hp ++ [.vec 18 (qq [(n, m, k.emod p)])]))
    | _, _ => none
  | _ => none
theorem qws : Am.Callee Try.prog 61 qle := by
  intro hp xs v hp' he
  unfold qle at he
  split at he
  · rename_i p b l k
    split at he
    · rename_i L n m hL hd
      obtain ⟨h0, he⟩ := qm he
      obtain ⟨rfl, hm⟩ := xa hd
      obtain ⟨n, rfl⟩ : ∃ j : Nat, n = j := ⟨n.toNat, by omega⟩
      refine ⟨[.ro []], [.int .i64 p, .slc 0 0 0 true 0, .agg (dia n m), .int .i64 k], qqr p n m k, one b, [(b, 0)], qk7 p n m k h0.1 (by omega) hm, ?_, rfl, ⟨fun j hj => ?_, rfl, fun j o c hj hb => ?_, fun j k bj bk oj ok hj hk hoj hok hw => ?_⟩, ?_, ⟨trivial, by simp [AV.under], qk _ _ (qh _ _), trivial, trivial⟩, ?_⟩
      · simp only [AV.zt, AV.ren, one, if_true, Nat.zero_add, qd _ _ (qh _ _)]
      · match j, hj with
        | 0, _ => rfl
      · match j, hj, hb with
        | 0, hj, hb =>
          cases hj; cases hb
          exact ⟨L, hL, by simp, by simp [AV.zt]⟩
        | j + 1, hj, hb => simp at hj
      · match j, hoj with
        | 0, hoj => cases hoj; cases hw
        | j + 1, hoj => simp at hoj
      · intro j o hj
        match j, hj with
        | 0, hj => cases hj; trivial
        | j + 1, hj => simp at hj
      · intro v' H' hr
        unfold qqr at hr
        split at he
        · rename_i hk
          rw [if_pos hk] at hr
          obtain ⟨rfl, rfl⟩ := hr
          simp only [Option.some.injEq, Prod.mk.injEq] at he
          obtain ⟨rfl, rfl⟩ := he
          exact ⟨by simp [AV.ren, Ren.ext, one], by simp [after, upd, AO.wr]⟩
        · rename_i hk
          rw [if_neg hk] at hr
          obtain ⟨rfl, rfl⟩ := hr
          simp only [Option.some.injEq, Prod.mk.injEq] at he
          obtain ⟨rfl, rfl⟩ := he
          exact ⟨by simp [AV.ren, Ren.ext], by simp [after, upd, AO.wr, AO.ren, qd _ _ (qa _)]⟩
    · cases he
  · cases he
def B23 : z7 := (B22.put 61 (qle))
theorem qwo : ze Try.prog B23 := (qmr.put (qws))
end Go.Proofs.Ytkgoadglalpbfaa
