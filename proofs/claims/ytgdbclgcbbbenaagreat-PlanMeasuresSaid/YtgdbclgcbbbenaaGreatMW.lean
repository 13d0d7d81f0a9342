/-
  (The examples' run.)
-/
import Derived.Test.YtgdbclgcbbbenaaGreatMF
set_option linter.all false

