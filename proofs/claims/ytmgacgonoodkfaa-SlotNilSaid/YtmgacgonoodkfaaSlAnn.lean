/- What the machine does with each piece of code, in plain text. PRINTED by a program of this workplace; Lean checks it. -/
import Derived.Test.YtmgacgonoodkfaaA27
namespace Go.Proofs.Ytmgacgonoodkfaa
open Go.AM
set_option maxRecDepth 100000
set_option linter.unusedVariables false
def ann22 : Ann := Ann.m (7 : Nat) Ann.o
  (Ann.m (7 : Nat) (Ann.m (8589934599 : Nat) Ann.o (Ann.m (7 : Nat) (Ann.m (192 : Nat) Ann.o (Ann.m (192 : Nat) Ann.o Ann.o)) Ann.o))
    (Ann.m (258 : Nat) Ann.o
      (Ann.m (256 : Nat)
        (Ann.m (549755814146 : Nat) Ann.o
          (Ann.m (256 : Nat)
            (Ann.m (549755814146 : Nat)
              (Ann.m (1649267441922 : Nat) Ann.o
                (Ann.m (549755814146 : Nat) (Ann.m (549755814146 : Nat) Ann.o (Ann.m (256 : Nat) Ann.o Ann.o))
                  (Ann.m (549755814146 : Nat) (Ann.m (549755814146 : Nat) (Ann.m (549755814658 : Nat) Ann.o Ann.o) Ann.o) Ann.o)))
              Ann.o)
            Ann.o))
        (Ann.m (192 : Nat) Ann.o (Ann.m (192 : Nat) Ann.o Ann.o)))))
def ann24 : Ann := Ann.m (31 : Nat) Ann.o
  (Ann.m (31 : Nat)
    (Ann.m (31 : Nat)
      (Ann.m (4127 : Nat) Ann.o
        (Ann.m (31 : Nat) (Ann.m (3072 : Nat) Ann.o (Ann.m (3072 : Nat) Ann.o Ann.o))
          (Ann.m (8589934623 : Nat) Ann.o
            (Ann.m (31 : Nat) (Ann.m (3072 : Nat) Ann.o (Ann.m (3072 : Nat) Ann.o Ann.o))
              (Ann.m (137438953503 : Nat) Ann.o
                (Ann.m (31 : Nat) (Ann.m (3072 : Nat) Ann.o (Ann.m (3072 : Nat) Ann.o Ann.o))
                  (Ann.m (2199023255583 : Nat) Ann.o
                    (Ann.m (31 : Nat) (Ann.m (3072 : Nat) Ann.o (Ann.m (3072 : Nat) Ann.o Ann.o))
                      (Ann.m (17592186044447 : Nat) Ann.o
                        (Ann.m (31 : Nat) (Ann.m (3072 : Nat) Ann.o (Ann.m (3072 : Nat) Ann.o Ann.o)) Ann.o))))))))))
      Ann.o)
    (Ann.m (0 : Nat) Ann.o (Ann.m (3072 : Nat) Ann.o (Ann.m (3072 : Nat) Ann.o Ann.o))))
def ann46 : Ann := Ann.m (1 : Nat) Ann.o (Ann.m (4 : Nat) Ann.o (Ann.m (4 : Nat) Ann.o Ann.o))
def ann48 : Ann := Ann.m (71 : Nat) Ann.o
  (Ann.m (71 : Nat) (Ann.m (268435527 : Nat) Ann.o (Ann.m (71 : Nat) (Ann.m (64 : Nat) Ann.o (Ann.m (64 : Nat) Ann.o Ann.o)) Ann.o))
    (Ann.m (64 : Nat) Ann.o (Ann.m (64 : Nat) Ann.o Ann.o)))
def ann26 : Ann := Ann.m (1 : Nat) Ann.o
  (Ann.m (1 : Nat) (Ann.m (65 : Nat) Ann.o (Ann.m (1 : Nat) (Ann.m (12 : Nat) Ann.o (Ann.m (12 : Nat) Ann.o Ann.o)) Ann.o))
    (Ann.m (16 : Nat) Ann.o (Ann.m (12 : Nat) Ann.o (Ann.m (12 : Nat) Ann.o Ann.o))))
def ann29 : Ann := Ann.m (7 : Nat) Ann.o (Ann.m (512 : Nat) Ann.o (Ann.m (448 : Nat) Ann.o (Ann.m (448 : Nat) Ann.o Ann.o)))
def ann31 : Ann := Ann.m (3 : Nat) Ann.o
  (Ann.m (35 : Nat) Ann.o
    (Ann.m (32 : Nat)
      (Ann.m (99 : Nat) Ann.o
        (Ann.m (32 : Nat)
          (Ann.m (99 : Nat)
            (Ann.m (99 : Nat) (Ann.m (131171 : Nat) Ann.o (Ann.m (99 : Nat) Ann.o (Ann.m (32 : Nat) Ann.o Ann.o)))
              (Ann.m (99 : Nat) (Ann.m (99 : Nat) (Ann.m (16777315 : Nat) Ann.o (Ann.m (99 : Nat) Ann.o Ann.o)) Ann.o) Ann.o))
            Ann.o)
          Ann.o))
      (Ann.m (16 : Nat) Ann.o (Ann.m (16 : Nat) Ann.o Ann.o))))
def ann47 : Ann := Ann.m (71 : Nat) Ann.o
  (Ann.m (327 : Nat) Ann.o
    (Ann.m (321 : Nat)
      (Ann.m (29360453 : Nat) Ann.o
        (Ann.m (321 : Nat)
          (Ann.m (29360453 : Nat)
            (Ann.m (62914885 : Nat) Ann.o
              (Ann.m (29360453 : Nat) (Ann.m (29360453 : Nat) Ann.o (Ann.m (321 : Nat) Ann.o Ann.o))
                (Ann.m (29360453 : Nat)
                  (Ann.m (29360453 : Nat) (Ann.m (29361989 : Nat) Ann.o (Ann.m (68748838725 : Nat) Ann.o (Ann.m (29360453 : Nat) Ann.o Ann.o))) Ann.o)
                  Ann.o)))
            Ann.o)
          Ann.o))
      (Ann.m (320 : Nat) (Ann.m (72057594037928256 : Nat) Ann.o (Ann.m (320 : Nat) (Ann.m (192 : Nat) Ann.o (Ann.m (192 : Nat) Ann.o Ann.o)) Ann.o))
        (Ann.m (192 : Nat) Ann.o (Ann.m (192 : Nat) Ann.o Ann.o)))))
def ann21 : Ann := Ann.m (19 : Nat) Ann.o
  (Ann.m (19 : Nat)
    (Ann.m (19 : Nat)
      (Ann.m (4115 : Nat) Ann.o
        (Ann.m (19 : Nat) (Ann.m (48 : Nat) Ann.o (Ann.m (48 : Nat) Ann.o Ann.o))
          (Ann.m (2097171 : Nat) Ann.o
            (Ann.m (19 : Nat)
              (Ann.m (211 : Nat) Ann.o
                (Ann.m (83 : Nat) (Ann.m (1073741907 : Nat) Ann.o (Ann.m (83 : Nat) (Ann.m (48 : Nat) Ann.o (Ann.m (48 : Nat) Ann.o Ann.o)) Ann.o))
                  (Ann.m (48 : Nat) Ann.o (Ann.m (48 : Nat) Ann.o Ann.o))))
              Ann.o))))
      Ann.o)
    (Ann.m (16 : Nat)
      (Ann.m (61572651155475 : Nat) Ann.o
        (Ann.m (16 : Nat)
          (Ann.m (61572651155475 : Nat)
            (Ann.m (131941395333139 : Nat) Ann.o
              (Ann.m (61572651155475 : Nat) (Ann.m (61572651155475 : Nat) Ann.o (Ann.m (16 : Nat) Ann.o Ann.o))
                (Ann.m (61572651155475 : Nat)
                  (Ann.m (61572651155475 : Nat)
                    (Ann.m (61572651155987 : Nat) Ann.o
                      (Ann.m (61572651159059 : Nat) Ann.o
                        (Ann.m (2305904581864850451 : Nat) Ann.o
                          (Ann.m (61572651155475 : Nat) (Ann.m (48 : Nat) Ann.o (Ann.m (48 : Nat) Ann.o Ann.o)) Ann.o))))
                    Ann.o)
                  Ann.o)))
            Ann.o)
          Ann.o))
      (Ann.m (48 : Nat) Ann.o (Ann.m (48 : Nat) Ann.o Ann.o))))
def ann19 : Ann := Ann.m (0 : Nat) Ann.o
  (Ann.m (6 : Nat) Ann.o
    (Ann.m (2 : Nat) (Ann.m (131074 : Nat) Ann.o (Ann.m (2 : Nat) (Ann.m (1 : Nat) Ann.o (Ann.m (1 : Nat) Ann.o Ann.o)) Ann.o))
      (Ann.m (2 : Nat)
        (Ann.m (10 : Nat) Ann.o
          (Ann.m (2 : Nat)
            (Ann.m (10 : Nat)
              (Ann.m (10 : Nat) (Ann.m (524298 : Nat) Ann.o (Ann.m (10 : Nat) Ann.o (Ann.m (2 : Nat) Ann.o Ann.o)))
                (Ann.m (10 : Nat)
                  (Ann.m (10 : Nat)
                    (Ann.m (58 : Nat) Ann.o
                      (Ann.m (17179869194 : Nat) Ann.o (Ann.m (10 : Nat) (Ann.m (1 : Nat) Ann.o (Ann.m (1 : Nat) Ann.o Ann.o)) Ann.o)))
                    Ann.o)
                  Ann.o))
              Ann.o)
            Ann.o))
        (Ann.m (194 : Nat) Ann.o (Ann.m (1 : Nat) Ann.o (Ann.m (1 : Nat) Ann.o Ann.o))))))
def ann44 : Ann := Ann.m (0 : Nat) Ann.o (Ann.m (1 : Nat) Ann.o (Ann.m (1 : Nat) Ann.o Ann.o))
def ann7 : Ann := Ann.m (2 : Nat) Ann.o
  (Ann.m (10 : Nat) Ann.o
    (Ann.m (58 : Nat) Ann.o
      (Ann.m (186 : Nat) Ann.o
        (Ann.m (698 : Nat) Ann.o
          (Ann.m (4794 : Nat) Ann.o
            (Ann.m (12986 : Nat) Ann.o
              (Ann.m (12986 : Nat)
                (Ann.m (2305843009213706938 : Nat) Ann.o
                  (Ann.m (12986 : Nat) Ann.o
                    (Ann.m (36893488147419116218 : Nat) Ann.o
                      (Ann.m (12986 : Nat) Ann.o (Ann.m (590295810358705664698 : Nat) Ann.o (Ann.m (12986 : Nat) Ann.o Ann.o))))))
                (Ann.m (4 : Nat) Ann.o (Ann.m (4 : Nat) Ann.o Ann.o)))))))))
def ann : FuncId → Ann
  | 22 => ann22
  | 24 => ann24
  | 46 => ann46
  | 48 => ann48
  | 26 => ann26
  | 29 => ann29
  | 31 => ann31
  | 47 => ann47
  | 21 => ann21
  | 19 => ann19
  | 44 => ann44
  | 7 => ann7
  | _ => .o
end Go.Proofs.Ytmgacgonoodkfaa
